/- What is proved here: what readSet and element of package dialplan answer where a string begins with an element that a stream makes. Condition: the string is short. -/
import Derived.Test.YtkfflafhlgephaaDoorPatSet
import Derived.Test.YtkfflafhlgephaaDoorRegionSeq
namespace Go.Proofs.YtkfflafhlgephaaDoor
open Go.RowKit
set_option linter.unusedVariables false
set_option linter.unusedSimpArgs false

theorem extract_take' (s : ByteArray) (k : Nat) : (s.extract 0 k).data.toList = s.data.toList.take k := by
  rw [Lib.extract_eq]; simp
theorem byte_at (s : ByteArray) (i : Nat) (b : UInt8) (h : i < s.size) (hb : s.data.toList[i]? = some b) : (s[i]'h).toNat = b.toNat := by
  have : s.data.toList[i]? = some (s[i]'h) := by
    rw [List.getElem?_eq_getElem (show i < s.data.toList.length by rw [Array.length_toList]; exact h)]
    rfl
  rw [hb] at this
  cases this
  rfl
theorem index_5 (rest : List UInt8) : Lib.indexByte (49 :: 50 :: 93 :: rest) 93 = 2 := by simp [Lib.indexByte, List.findIdx?_cons]
set_option maxRecDepth 100000 in
set_option maxHeartbeats 1000000 in
theorem readSet_5 (s : ByteArray) (rest : List UInt8) (hs : s.data.toList = 49 :: 50 :: 93 :: rest) (hr : rest.length ≤ 1000) (w : World) : Calls Tryd.prog 103 #[.string s] w fun e w' => e = .returned (.tuple #[.int .u16 24, .int .i64 3]) ∧ Below w.heap.size w w' := by
  have hix := fun w => Tryd.strings_IndexByte s 93 w
  rw [hs, show Lib.indexByte (49 :: 50 :: 93 :: rest) (93 : Int).toNat.toUInt8 = 2 from index_5 rest] at hix
  have HIX := Lib.hid hix
  have hsz : s.size = rest.length + 3 := by
    show s.data.size = _
    rw [← Array.length_toList, hs]; rfl
  have z0 : 2 < s.size := by omega
  have z1 : s.size ≤ 2000 := by omega
  have hcut : (s.extract 0 2).toList = [49, 50] := by
    rw [Go.ByteArray.toList_eq, extract_take' s, hs]
    simp
  have p0 : 0 < s.size := by omega
  have x0 : (s[0]'p0).toNat = 49 := byte_at s 0 49 p0 (by rw [hs]; rfl)
  have p1 : 1 < s.size := by omega
  have x1 : (s[1]'p1).toNat = 50 := byte_at s 1 50 p1 (by rw [hs]; rfl)
  clear hix hs hsz hr
  go_enter Tryd.func103, Tryd.ntmps103
  go_wp2_with (go_at_call 104; refine (HIX.out _).mono ?_; rintro e w' ⟨rfl, rfl⟩)
  go_loop [5, 6] (fun m i => (m = .int .u16 0 ∧ i = .int .i64 0) ∨ (m = .int .u16 8 ∧ i = .int .i64 1) ∨ (m = .int .u16 24 ∧ i = .int .i64 2)) (fun _ i => 2 - (intOf i).toNat)
  case atStart => exact Or.inl ⟨rfl, rfl⟩
  case round =>
    rcases hrel with ⟨rfl, rfl⟩ | ⟨rfl, rfl⟩ | ⟨rfl, rfl⟩
    · have eo : bits BinOp.or IntKind.u16 0 8 = 8 := by decide
      go_wp2_with (go_at_call 102; refine (from_49_49 _).mono ?_; rintro e w' ⟨rfl, rfl⟩)
      go_round
      case rel => exact Or.inr (Or.inl ⟨rfl, by go_num⟩)
      case measure => decide
    · have eo : bits BinOp.or IntKind.u16 8 16 = 24 := by decide
      go_wp2_with (go_at_call 102; refine (from_50_50 _).mono ?_; rintro e w' ⟨rfl, rfl⟩)
      go_round
      case rel => exact Or.inr (Or.inr (⟨rfl, by go_num⟩))
      case measure => decide
    · go_wp2_with fail
      refine region_seqI (S := fun _ => True) [(true, 0), (false, 1), (true, 2), (true, 3), (true, 4), (false, 5), (true, 6), (true, 7), (true, 8), (true, 9), (false, 10), (true, 11), (true, 12), (true, 13), (true, 14), (false, 15), (true, 16), (true, 17), (true, 18), (true, 19), (true, 21), (true, 22), (true, 23), (false, 20), (true, 24), (true, 25)] (by kernel_rfl) (by kernel_rfl) rfl (by kernel_rfl) trivial ?_
      simp only [seqOps, List.getD_cons_zero, List.getD_cons_succ]
      refine seqI_take (v := .int .u16 24) rfl (fun w9 _ => (by go_simp)) (fun _ _ _ h => h) ?_
      simp only [Act.put, List.setIfInBounds_toArray, List.set_cons_zero, List.set_cons_succ]
      refine seqI_call 118 #[.int .u16 24] rfl (by go_simp) (ones_24 _) ?_
      rintro e w9 ⟨rfl, nq, rfl⟩
      refine ⟨_, rfl, trivial, ?_⟩
      simp only [Act.put, List.setIfInBounds_toArray, List.set_cons_zero, List.set_cons_succ]
      refine seqI_take (v := .bool false) rfl (fun w9 _ => (by go_simp)) (fun _ _ _ h => h) ?_
      simp only [Act.put, List.setIfInBounds_toArray, List.set_cons_zero, List.set_cons_succ]
      refine seqI_take (v := .bool false) rfl (fun w9 _ => (by go_simp)) (fun _ _ _ h => h) ?_
      simp only [Act.put, List.setIfInBounds_toArray, List.set_cons_zero, List.set_cons_succ]
      refine seqI_take (v := .int .u16 24) rfl (fun w9 _ => (by go_simp)) (fun _ _ _ h => h) ?_
      simp only [Act.put, List.setIfInBounds_toArray, List.set_cons_zero, List.set_cons_succ]
      refine seqI_call 102 #[.int .u8 48, .int .u8 57] rfl (by go_simp) (from_48_57 _) ?_
      rintro e w9 ⟨rfl, rfl⟩
      refine ⟨_, rfl, trivial, ?_⟩
      simp only [Act.put, List.setIfInBounds_toArray, List.set_cons_zero, List.set_cons_succ]
      refine seqI_take (v := .bool false) rfl (fun w9 _ => (by go_simp)) (fun _ _ _ h => h) ?_
      simp only [Act.put, List.setIfInBounds_toArray, List.set_cons_zero, List.set_cons_succ]
      refine seqI_take (v := .bool false) rfl (fun w9 _ => (by go_simp)) (fun _ _ _ h => h) ?_
      simp only [Act.put, List.setIfInBounds_toArray, List.set_cons_zero, List.set_cons_succ]
      refine seqI_take (v := .bool false) rfl (fun w9 _ => (by go_simp)) (fun _ _ _ h => h) ?_
      simp only [Act.put, List.setIfInBounds_toArray, List.set_cons_zero, List.set_cons_succ]
      refine seqI_take (v := .int .u16 24) rfl (fun w9 _ => (by go_simp)) (fun _ _ _ h => h) ?_
      simp only [Act.put, List.setIfInBounds_toArray, List.set_cons_zero, List.set_cons_succ]
      refine seqI_call 102 #[.int .u8 49, .int .u8 57] rfl (by go_simp) (from_49_57 _) ?_
      rintro e w9 ⟨rfl, rfl⟩
      refine ⟨_, rfl, trivial, ?_⟩
      simp only [Act.put, List.setIfInBounds_toArray, List.set_cons_zero, List.set_cons_succ]
      refine seqI_take (v := .bool false) rfl (fun w9 _ => (by go_simp)) (fun _ _ _ h => h) ?_
      simp only [Act.put, List.setIfInBounds_toArray, List.set_cons_zero, List.set_cons_succ]
      refine seqI_take (v := .bool false) rfl (fun w9 _ => (by go_simp)) (fun _ _ _ h => h) ?_
      simp only [Act.put, List.setIfInBounds_toArray, List.set_cons_zero, List.set_cons_succ]
      refine seqI_take (v := .bool false) rfl (fun w9 _ => (by go_simp)) (fun _ _ _ h => h) ?_
      simp only [Act.put, List.setIfInBounds_toArray, List.set_cons_zero, List.set_cons_succ]
      refine seqI_take (v := .int .u16 24) rfl (fun w9 _ => (by go_simp)) (fun _ _ _ h => h) ?_
      simp only [Act.put, List.setIfInBounds_toArray, List.set_cons_zero, List.set_cons_succ]
      refine seqI_call 102 #[.int .u8 50, .int .u8 57] rfl (by go_simp) (from_29 _) ?_
      rintro e w9 ⟨rfl, rfl⟩
      refine ⟨_, rfl, trivial, ?_⟩
      simp only [Act.put, List.setIfInBounds_toArray, List.set_cons_zero, List.set_cons_succ]
      refine seqI_take (v := .bool false) rfl (fun w9 _ => (by go_simp)) (fun _ _ _ h => h) ?_
      simp only [Act.put, List.setIfInBounds_toArray, List.set_cons_zero, List.set_cons_succ]
      refine seqI_take (v := .bool false) rfl (fun w9 _ => (by go_simp)) (fun _ _ _ h => h) ?_
      simp only [Act.put, List.setIfInBounds_toArray, List.set_cons_zero, List.set_cons_succ]
      refine seqI_take (v := .bool false) rfl (fun w9 _ => (by go_simp)) (fun _ _ _ h => h) ?_
      simp only [Act.put, List.setIfInBounds_toArray, List.set_cons_zero, List.set_cons_succ]
      refine seqI_take (v := .int .u16 24) rfl (fun w9 _ => (by go_simp)) (fun _ _ _ h => h) ?_
      simp only [Act.put, List.setIfInBounds_toArray, List.set_cons_zero, List.set_cons_succ]
      refine seqI_take (v := .string s) rfl (fun w9 _ => (by go_simp)) (fun _ _ _ h => h) ?_
      simp only [Act.put, List.setIfInBounds_toArray, List.set_cons_zero, List.set_cons_succ]
      refine seqI_take (v := .int .i64 2) rfl (fun w9 _ => (by go_simp)) (fun _ _ _ h => h) ?_
      simp only [Act.put, List.setIfInBounds_toArray, List.set_cons_zero, List.set_cons_succ]
      refine seqI_take (v := .string (s.extract 0 2)) rfl (fun w9 _ => (by go_simp; intro h9; exfalso; omega)) (fun _ _ _ h => h) ?_
      simp only [Act.put, List.setIfInBounds_toArray, List.set_cons_zero, List.set_cons_succ]
      refine seqI_call 119 #[.int .u16 24] rfl (by go_simp) (digits_24 _) ?_
      rintro e w9 ⟨rfl, hB9⟩
      refine ⟨_, rfl, trivial, ?_⟩
      simp only [Act.put, List.setIfInBounds_toArray, List.set_cons_zero, List.set_cons_succ]
      refine seqI_take (v := .bool false) rfl (fun w9 _ => (by go_simp)) (fun _ _ _ h => h) ?_
      simp only [Act.put, List.setIfInBounds_toArray, List.set_cons_zero, List.set_cons_succ]
      refine seqI_take (v := .bool false) rfl (fun w9 _ => (by go_simp)) (fun _ _ _ h => h) ?_
      simp only [Act.put, List.setIfInBounds_toArray, List.set_cons_zero, List.set_cons_succ]
      refine seqI_nil ?_
      go_wp2_with fail
      go_ret2
      exact ⟨rfl, (by (try show Below _ _ _); repeat (with_reducible first | exact Below.refl _ _ | assumption | exact Hid.out (by assumption) | refine ext_alloc ?_ | refine ext_drewN ?_ | refine ext_drew ?_ | refine ext_setCell ?_ (Nat.le_refl _) | refine ext_setCell ?_ (Nat.le_succ _) | refine ext_trans ?_ (by assumption) | (refine ext_setCell ?_ (by simp)) | (refine ext_setCell ?_ (by simp at *; omega))))⟩
theorem index_6 (rest : List UInt8) : Lib.indexByte (50 :: 57 :: 93 :: rest) 93 = 2 := by simp [Lib.indexByte, List.findIdx?_cons]
set_option maxRecDepth 100000 in
set_option maxHeartbeats 1000000 in
theorem readSet_6 (s : ByteArray) (rest : List UInt8) (hs : s.data.toList = 50 :: 57 :: 93 :: rest) (hr : rest.length ≤ 1000) (w : World) : Calls Tryd.prog 103 #[.string s] w fun e w' => e = .returned (.tuple #[.int .u16 2064, .int .i64 3]) ∧ Below w.heap.size w w' := by
  have hix := fun w => Tryd.strings_IndexByte s 93 w
  rw [hs, show Lib.indexByte (50 :: 57 :: 93 :: rest) (93 : Int).toNat.toUInt8 = 2 from index_6 rest] at hix
  have HIX := Lib.hid hix
  have hsz : s.size = rest.length + 3 := by
    show s.data.size = _
    rw [← Array.length_toList, hs]; rfl
  have z0 : 2 < s.size := by omega
  have z1 : s.size ≤ 2000 := by omega
  have hcut : (s.extract 0 2).toList = [50, 57] := by
    rw [Go.ByteArray.toList_eq, extract_take' s, hs]
    simp
  have p0 : 0 < s.size := by omega
  have x0 : (s[0]'p0).toNat = 50 := byte_at s 0 50 p0 (by rw [hs]; rfl)
  have p1 : 1 < s.size := by omega
  have x1 : (s[1]'p1).toNat = 57 := byte_at s 1 57 p1 (by rw [hs]; rfl)
  clear hix hs hsz hr
  go_enter Tryd.func103, Tryd.ntmps103
  go_wp2_with (go_at_call 104; refine (HIX.out _).mono ?_; rintro e w' ⟨rfl, rfl⟩)
  go_loop [5, 6] (fun m i => (m = .int .u16 0 ∧ i = .int .i64 0) ∨ (m = .int .u16 16 ∧ i = .int .i64 1) ∨ (m = .int .u16 2064 ∧ i = .int .i64 2)) (fun _ i => 2 - (intOf i).toNat)
  case atStart => exact Or.inl ⟨rfl, rfl⟩
  case round =>
    rcases hrel with ⟨rfl, rfl⟩ | ⟨rfl, rfl⟩ | ⟨rfl, rfl⟩
    · have eo : bits BinOp.or IntKind.u16 0 16 = 16 := by decide
      go_wp2_with (go_at_call 102; refine (from_50_50 _).mono ?_; rintro e w' ⟨rfl, rfl⟩)
      go_round
      case rel => exact Or.inr (Or.inl ⟨rfl, by go_num⟩)
      case measure => decide
    · have eo : bits BinOp.or IntKind.u16 16 2048 = 2064 := by decide
      go_wp2_with (go_at_call 102; refine (from_57_57 _).mono ?_; rintro e w' ⟨rfl, rfl⟩)
      go_round
      case rel => exact Or.inr (Or.inr (⟨rfl, by go_num⟩))
      case measure => decide
    · go_wp2_with fail
      refine region_seqI (S := fun _ => True) [(true, 0), (false, 1), (true, 2), (true, 3), (true, 4), (false, 5), (true, 6), (true, 7), (true, 8), (true, 9), (false, 10), (true, 11), (true, 12), (true, 13), (true, 14), (false, 15), (true, 16), (true, 17), (true, 18), (true, 19), (true, 21), (true, 22), (true, 23), (false, 20), (true, 24), (true, 25)] (by kernel_rfl) (by kernel_rfl) rfl (by kernel_rfl) trivial ?_
      simp only [seqOps, List.getD_cons_zero, List.getD_cons_succ]
      refine seqI_take (v := .int .u16 2064) rfl (fun w9 _ => (by go_simp)) (fun _ _ _ h => h) ?_
      simp only [Act.put, List.setIfInBounds_toArray, List.set_cons_zero, List.set_cons_succ]
      refine seqI_call 118 #[.int .u16 2064] rfl (by go_simp) (ones_2064 _) ?_
      rintro e w9 ⟨rfl, nq, rfl⟩
      refine ⟨_, rfl, trivial, ?_⟩
      simp only [Act.put, List.setIfInBounds_toArray, List.set_cons_zero, List.set_cons_succ]
      refine seqI_take (v := .bool false) rfl (fun w9 _ => (by go_simp)) (fun _ _ _ h => h) ?_
      simp only [Act.put, List.setIfInBounds_toArray, List.set_cons_zero, List.set_cons_succ]
      refine seqI_take (v := .bool false) rfl (fun w9 _ => (by go_simp)) (fun _ _ _ h => h) ?_
      simp only [Act.put, List.setIfInBounds_toArray, List.set_cons_zero, List.set_cons_succ]
      refine seqI_take (v := .int .u16 2064) rfl (fun w9 _ => (by go_simp)) (fun _ _ _ h => h) ?_
      simp only [Act.put, List.setIfInBounds_toArray, List.set_cons_zero, List.set_cons_succ]
      refine seqI_call 102 #[.int .u8 48, .int .u8 57] rfl (by go_simp) (from_48_57 _) ?_
      rintro e w9 ⟨rfl, rfl⟩
      refine ⟨_, rfl, trivial, ?_⟩
      simp only [Act.put, List.setIfInBounds_toArray, List.set_cons_zero, List.set_cons_succ]
      refine seqI_take (v := .bool false) rfl (fun w9 _ => (by go_simp)) (fun _ _ _ h => h) ?_
      simp only [Act.put, List.setIfInBounds_toArray, List.set_cons_zero, List.set_cons_succ]
      refine seqI_take (v := .bool false) rfl (fun w9 _ => (by go_simp)) (fun _ _ _ h => h) ?_
      simp only [Act.put, List.setIfInBounds_toArray, List.set_cons_zero, List.set_cons_succ]
      refine seqI_take (v := .bool false) rfl (fun w9 _ => (by go_simp)) (fun _ _ _ h => h) ?_
      simp only [Act.put, List.setIfInBounds_toArray, List.set_cons_zero, List.set_cons_succ]
      refine seqI_take (v := .int .u16 2064) rfl (fun w9 _ => (by go_simp)) (fun _ _ _ h => h) ?_
      simp only [Act.put, List.setIfInBounds_toArray, List.set_cons_zero, List.set_cons_succ]
      refine seqI_call 102 #[.int .u8 49, .int .u8 57] rfl (by go_simp) (from_49_57 _) ?_
      rintro e w9 ⟨rfl, rfl⟩
      refine ⟨_, rfl, trivial, ?_⟩
      simp only [Act.put, List.setIfInBounds_toArray, List.set_cons_zero, List.set_cons_succ]
      refine seqI_take (v := .bool false) rfl (fun w9 _ => (by go_simp)) (fun _ _ _ h => h) ?_
      simp only [Act.put, List.setIfInBounds_toArray, List.set_cons_zero, List.set_cons_succ]
      refine seqI_take (v := .bool false) rfl (fun w9 _ => (by go_simp)) (fun _ _ _ h => h) ?_
      simp only [Act.put, List.setIfInBounds_toArray, List.set_cons_zero, List.set_cons_succ]
      refine seqI_take (v := .bool false) rfl (fun w9 _ => (by go_simp)) (fun _ _ _ h => h) ?_
      simp only [Act.put, List.setIfInBounds_toArray, List.set_cons_zero, List.set_cons_succ]
      refine seqI_take (v := .int .u16 2064) rfl (fun w9 _ => (by go_simp)) (fun _ _ _ h => h) ?_
      simp only [Act.put, List.setIfInBounds_toArray, List.set_cons_zero, List.set_cons_succ]
      refine seqI_call 102 #[.int .u8 50, .int .u8 57] rfl (by go_simp) (from_29 _) ?_
      rintro e w9 ⟨rfl, rfl⟩
      refine ⟨_, rfl, trivial, ?_⟩
      simp only [Act.put, List.setIfInBounds_toArray, List.set_cons_zero, List.set_cons_succ]
      refine seqI_take (v := .bool false) rfl (fun w9 _ => (by go_simp)) (fun _ _ _ h => h) ?_
      simp only [Act.put, List.setIfInBounds_toArray, List.set_cons_zero, List.set_cons_succ]
      refine seqI_take (v := .bool false) rfl (fun w9 _ => (by go_simp)) (fun _ _ _ h => h) ?_
      simp only [Act.put, List.setIfInBounds_toArray, List.set_cons_zero, List.set_cons_succ]
      refine seqI_take (v := .bool false) rfl (fun w9 _ => (by go_simp)) (fun _ _ _ h => h) ?_
      simp only [Act.put, List.setIfInBounds_toArray, List.set_cons_zero, List.set_cons_succ]
      refine seqI_take (v := .int .u16 2064) rfl (fun w9 _ => (by go_simp)) (fun _ _ _ h => h) ?_
      simp only [Act.put, List.setIfInBounds_toArray, List.set_cons_zero, List.set_cons_succ]
      refine seqI_take (v := .string s) rfl (fun w9 _ => (by go_simp)) (fun _ _ _ h => h) ?_
      simp only [Act.put, List.setIfInBounds_toArray, List.set_cons_zero, List.set_cons_succ]
      refine seqI_take (v := .int .i64 2) rfl (fun w9 _ => (by go_simp)) (fun _ _ _ h => h) ?_
      simp only [Act.put, List.setIfInBounds_toArray, List.set_cons_zero, List.set_cons_succ]
      refine seqI_take (v := .string (s.extract 0 2)) rfl (fun w9 _ => (by go_simp; intro h9; exfalso; omega)) (fun _ _ _ h => h) ?_
      simp only [Act.put, List.setIfInBounds_toArray, List.set_cons_zero, List.set_cons_succ]
      refine seqI_call 119 #[.int .u16 2064] rfl (by go_simp) (digits_2064 _) ?_
      rintro e w9 ⟨rfl, hB9⟩
      refine ⟨_, rfl, trivial, ?_⟩
      simp only [Act.put, List.setIfInBounds_toArray, List.set_cons_zero, List.set_cons_succ]
      refine seqI_take (v := .bool false) rfl (fun w9 _ => (by go_simp)) (fun _ _ _ h => h) ?_
      simp only [Act.put, List.setIfInBounds_toArray, List.set_cons_zero, List.set_cons_succ]
      refine seqI_take (v := .bool false) rfl (fun w9 _ => (by go_simp)) (fun _ _ _ h => h) ?_
      simp only [Act.put, List.setIfInBounds_toArray, List.set_cons_zero, List.set_cons_succ]
      refine seqI_nil ?_
      go_wp2_with fail
      go_ret2
      exact ⟨rfl, (by (try show Below _ _ _); repeat (with_reducible first | exact Below.refl _ _ | assumption | exact Hid.out (by assumption) | refine ext_alloc ?_ | refine ext_drewN ?_ | refine ext_drew ?_ | refine ext_setCell ?_ (Nat.le_refl _) | refine ext_setCell ?_ (Nat.le_succ _) | refine ext_trans ?_ (by assumption) | (refine ext_setCell ?_ (by simp)) | (refine ext_setCell ?_ (by simp at *; omega))))⟩
theorem index_7 (rest : List UInt8) : Lib.indexByte (50 :: 45 :: 52 :: 93 :: rest) 93 = 3 := by simp [Lib.indexByte, List.findIdx?_cons]
set_option maxRecDepth 100000 in
set_option maxHeartbeats 1000000 in
theorem readSet_7 (s : ByteArray) (rest : List UInt8) (hs : s.data.toList = 50 :: 45 :: 52 :: 93 :: rest) (hr : rest.length ≤ 1000) (w : World) : Calls Tryd.prog 103 #[.string s] w fun e w' => e = .returned (.tuple #[.int .u16 112, .int .i64 4]) ∧ Below w.heap.size w w' := by
  have hix := fun w => Tryd.strings_IndexByte s 93 w
  rw [hs, show Lib.indexByte (50 :: 45 :: 52 :: 93 :: rest) (93 : Int).toNat.toUInt8 = 3 from index_7 rest] at hix
  have HIX := Lib.hid hix
  have hsz : s.size = rest.length + 4 := by
    show s.data.size = _
    rw [← Array.length_toList, hs]; rfl
  have z0 : 3 < s.size := by omega
  have z1 : s.size ≤ 2000 := by omega
  have hcut : (s.extract 0 3).toList = [50, 45, 52] := by
    rw [Go.ByteArray.toList_eq, extract_take' s, hs]
    simp
  have p0 : 0 < s.size := by omega
  have x0 : (s[0]'p0).toNat = 50 := byte_at s 0 50 p0 (by rw [hs]; rfl)
  have p1 : 1 < s.size := by omega
  have x1 : (s[1]'p1).toNat = 45 := byte_at s 1 45 p1 (by rw [hs]; rfl)
  have p2 : 2 < s.size := by omega
  have x2 : (s[2]'p2).toNat = 52 := byte_at s 2 52 p2 (by rw [hs]; rfl)
  clear hix hs hsz hr
  go_enter Tryd.func103, Tryd.ntmps103
  go_wp2_with (go_at_call 104; refine (HIX.out _).mono ?_; rintro e w' ⟨rfl, rfl⟩)
  go_loop [5, 6] (fun m i => (m = .int .u16 0 ∧ i = .int .i64 0) ∨ (m = .int .u16 112 ∧ i = .int .i64 3)) (fun _ i => 3 - (intOf i).toNat)
  case atStart => exact Or.inl ⟨rfl, rfl⟩
  case round =>
    rcases hrel with ⟨rfl, rfl⟩ | ⟨rfl, rfl⟩
    · have eo : bits BinOp.or IntKind.u16 0 112 = 112 := by decide
      go_wp2_with (go_at_call 102; refine (from_50_52 _).mono ?_; rintro e w' ⟨rfl, rfl⟩)
      go_round
      case rel => exact Or.inr (⟨rfl, by go_num⟩)
      case measure => decide
    · go_wp2_with fail
      refine region_seqI (S := fun _ => True) [(true, 0), (false, 1), (true, 2), (true, 3), (true, 4), (false, 5), (true, 6), (true, 7), (true, 8), (true, 9), (false, 10), (true, 11), (true, 12), (true, 13), (true, 14), (false, 15), (true, 16), (true, 17), (true, 18), (true, 19), (true, 21), (true, 22), (true, 23), (false, 20), (true, 24), (true, 25)] (by kernel_rfl) (by kernel_rfl) rfl (by kernel_rfl) trivial ?_
      simp only [seqOps, List.getD_cons_zero, List.getD_cons_succ]
      refine seqI_take (v := .int .u16 112) rfl (fun w9 _ => (by go_simp)) (fun _ _ _ h => h) ?_
      simp only [Act.put, List.setIfInBounds_toArray, List.set_cons_zero, List.set_cons_succ]
      refine seqI_call 118 #[.int .u16 112] rfl (by go_simp) (ones_112 _) ?_
      rintro e w9 ⟨rfl, nq, rfl⟩
      refine ⟨_, rfl, trivial, ?_⟩
      simp only [Act.put, List.setIfInBounds_toArray, List.set_cons_zero, List.set_cons_succ]
      refine seqI_take (v := .bool false) rfl (fun w9 _ => (by go_simp)) (fun _ _ _ h => h) ?_
      simp only [Act.put, List.setIfInBounds_toArray, List.set_cons_zero, List.set_cons_succ]
      refine seqI_take (v := .bool false) rfl (fun w9 _ => (by go_simp)) (fun _ _ _ h => h) ?_
      simp only [Act.put, List.setIfInBounds_toArray, List.set_cons_zero, List.set_cons_succ]
      refine seqI_take (v := .int .u16 112) rfl (fun w9 _ => (by go_simp)) (fun _ _ _ h => h) ?_
      simp only [Act.put, List.setIfInBounds_toArray, List.set_cons_zero, List.set_cons_succ]
      refine seqI_call 102 #[.int .u8 48, .int .u8 57] rfl (by go_simp) (from_48_57 _) ?_
      rintro e w9 ⟨rfl, rfl⟩
      refine ⟨_, rfl, trivial, ?_⟩
      simp only [Act.put, List.setIfInBounds_toArray, List.set_cons_zero, List.set_cons_succ]
      refine seqI_take (v := .bool false) rfl (fun w9 _ => (by go_simp)) (fun _ _ _ h => h) ?_
      simp only [Act.put, List.setIfInBounds_toArray, List.set_cons_zero, List.set_cons_succ]
      refine seqI_take (v := .bool false) rfl (fun w9 _ => (by go_simp)) (fun _ _ _ h => h) ?_
      simp only [Act.put, List.setIfInBounds_toArray, List.set_cons_zero, List.set_cons_succ]
      refine seqI_take (v := .bool false) rfl (fun w9 _ => (by go_simp)) (fun _ _ _ h => h) ?_
      simp only [Act.put, List.setIfInBounds_toArray, List.set_cons_zero, List.set_cons_succ]
      refine seqI_take (v := .int .u16 112) rfl (fun w9 _ => (by go_simp)) (fun _ _ _ h => h) ?_
      simp only [Act.put, List.setIfInBounds_toArray, List.set_cons_zero, List.set_cons_succ]
      refine seqI_call 102 #[.int .u8 49, .int .u8 57] rfl (by go_simp) (from_49_57 _) ?_
      rintro e w9 ⟨rfl, rfl⟩
      refine ⟨_, rfl, trivial, ?_⟩
      simp only [Act.put, List.setIfInBounds_toArray, List.set_cons_zero, List.set_cons_succ]
      refine seqI_take (v := .bool false) rfl (fun w9 _ => (by go_simp)) (fun _ _ _ h => h) ?_
      simp only [Act.put, List.setIfInBounds_toArray, List.set_cons_zero, List.set_cons_succ]
      refine seqI_take (v := .bool false) rfl (fun w9 _ => (by go_simp)) (fun _ _ _ h => h) ?_
      simp only [Act.put, List.setIfInBounds_toArray, List.set_cons_zero, List.set_cons_succ]
      refine seqI_take (v := .bool false) rfl (fun w9 _ => (by go_simp)) (fun _ _ _ h => h) ?_
      simp only [Act.put, List.setIfInBounds_toArray, List.set_cons_zero, List.set_cons_succ]
      refine seqI_take (v := .int .u16 112) rfl (fun w9 _ => (by go_simp)) (fun _ _ _ h => h) ?_
      simp only [Act.put, List.setIfInBounds_toArray, List.set_cons_zero, List.set_cons_succ]
      refine seqI_call 102 #[.int .u8 50, .int .u8 57] rfl (by go_simp) (from_29 _) ?_
      rintro e w9 ⟨rfl, rfl⟩
      refine ⟨_, rfl, trivial, ?_⟩
      simp only [Act.put, List.setIfInBounds_toArray, List.set_cons_zero, List.set_cons_succ]
      refine seqI_take (v := .bool false) rfl (fun w9 _ => (by go_simp)) (fun _ _ _ h => h) ?_
      simp only [Act.put, List.setIfInBounds_toArray, List.set_cons_zero, List.set_cons_succ]
      refine seqI_take (v := .bool false) rfl (fun w9 _ => (by go_simp)) (fun _ _ _ h => h) ?_
      simp only [Act.put, List.setIfInBounds_toArray, List.set_cons_zero, List.set_cons_succ]
      refine seqI_take (v := .bool false) rfl (fun w9 _ => (by go_simp)) (fun _ _ _ h => h) ?_
      simp only [Act.put, List.setIfInBounds_toArray, List.set_cons_zero, List.set_cons_succ]
      refine seqI_take (v := .int .u16 112) rfl (fun w9 _ => (by go_simp)) (fun _ _ _ h => h) ?_
      simp only [Act.put, List.setIfInBounds_toArray, List.set_cons_zero, List.set_cons_succ]
      refine seqI_take (v := .string s) rfl (fun w9 _ => (by go_simp)) (fun _ _ _ h => h) ?_
      simp only [Act.put, List.setIfInBounds_toArray, List.set_cons_zero, List.set_cons_succ]
      refine seqI_take (v := .int .i64 3) rfl (fun w9 _ => (by go_simp)) (fun _ _ _ h => h) ?_
      simp only [Act.put, List.setIfInBounds_toArray, List.set_cons_zero, List.set_cons_succ]
      refine seqI_take (v := .string (s.extract 0 3)) rfl (fun w9 _ => (by go_simp; intro h9; exfalso; omega)) (fun _ _ _ h => h) ?_
      simp only [Act.put, List.setIfInBounds_toArray, List.set_cons_zero, List.set_cons_succ]
      refine seqI_call 119 #[.int .u16 112] rfl (by go_simp) (digits_112 _) ?_
      rintro e w9 ⟨rfl, hB9⟩
      refine ⟨_, rfl, trivial, ?_⟩
      simp only [Act.put, List.setIfInBounds_toArray, List.set_cons_zero, List.set_cons_succ]
      refine seqI_take (v := .bool false) rfl (fun w9 _ => (by go_simp)) (fun _ _ _ h => h) ?_
      simp only [Act.put, List.setIfInBounds_toArray, List.set_cons_zero, List.set_cons_succ]
      refine seqI_take (v := .bool false) rfl (fun w9 _ => (by go_simp)) (fun _ _ _ h => h) ?_
      simp only [Act.put, List.setIfInBounds_toArray, List.set_cons_zero, List.set_cons_succ]
      refine seqI_nil ?_
      go_wp2_with fail
      go_ret2
      exact ⟨rfl, (by (try show Below _ _ _); repeat (with_reducible first | exact Below.refl _ _ | assumption | exact Hid.out (by assumption) | refine ext_alloc ?_ | refine ext_drewN ?_ | refine ext_drew ?_ | refine ext_setCell ?_ (Nat.le_refl _) | refine ext_setCell ?_ (Nat.le_succ _) | refine ext_trans ?_ (by assumption) | (refine ext_setCell ?_ (by simp)) | (refine ext_setCell ?_ (by simp at *; omega))))⟩
theorem index_8 (rest : List UInt8) : Lib.indexByte (49 :: 45 :: 51 :: 53 :: 93 :: rest) 93 = 4 := by simp [Lib.indexByte, List.findIdx?_cons]
set_option maxRecDepth 100000 in
set_option maxHeartbeats 1000000 in
theorem readSet_8 (s : ByteArray) (rest : List UInt8) (hs : s.data.toList = 49 :: 45 :: 51 :: 53 :: 93 :: rest) (hr : rest.length ≤ 1000) (w : World) : Calls Tryd.prog 103 #[.string s] w fun e w' => e = .returned (.tuple #[.int .u16 184, .int .i64 5]) ∧ Below w.heap.size w w' := by
  have hix := fun w => Tryd.strings_IndexByte s 93 w
  rw [hs, show Lib.indexByte (49 :: 45 :: 51 :: 53 :: 93 :: rest) (93 : Int).toNat.toUInt8 = 4 from index_8 rest] at hix
  have HIX := Lib.hid hix
  have hsz : s.size = rest.length + 5 := by
    show s.data.size = _
    rw [← Array.length_toList, hs]; rfl
  have z0 : 4 < s.size := by omega
  have z1 : s.size ≤ 2000 := by omega
  have hcut : (s.extract 0 4).toList = [49, 45, 51, 53] := by
    rw [Go.ByteArray.toList_eq, extract_take' s, hs]
    simp
  have p0 : 0 < s.size := by omega
  have x0 : (s[0]'p0).toNat = 49 := byte_at s 0 49 p0 (by rw [hs]; rfl)
  have p1 : 1 < s.size := by omega
  have x1 : (s[1]'p1).toNat = 45 := byte_at s 1 45 p1 (by rw [hs]; rfl)
  have p2 : 2 < s.size := by omega
  have x2 : (s[2]'p2).toNat = 51 := byte_at s 2 51 p2 (by rw [hs]; rfl)
  have p3 : 3 < s.size := by omega
  have x3 : (s[3]'p3).toNat = 53 := byte_at s 3 53 p3 (by rw [hs]; rfl)
  clear hix hs hsz hr
  go_enter Tryd.func103, Tryd.ntmps103
  go_wp2_with (go_at_call 104; refine (HIX.out _).mono ?_; rintro e w' ⟨rfl, rfl⟩)
  go_loop [5, 6] (fun m i => (m = .int .u16 0 ∧ i = .int .i64 0) ∨ (m = .int .u16 56 ∧ i = .int .i64 3) ∨ (m = .int .u16 184 ∧ i = .int .i64 4)) (fun _ i => 4 - (intOf i).toNat)
  case atStart => exact Or.inl ⟨rfl, rfl⟩
  case round =>
    rcases hrel with ⟨rfl, rfl⟩ | ⟨rfl, rfl⟩ | ⟨rfl, rfl⟩
    · have eo : bits BinOp.or IntKind.u16 0 56 = 56 := by decide
      go_wp2_with (go_at_call 102; refine (from_49_51 _).mono ?_; rintro e w' ⟨rfl, rfl⟩)
      go_round
      case rel => exact Or.inr (Or.inl ⟨rfl, by go_num⟩)
      case measure => decide
    · have eo : bits BinOp.or IntKind.u16 56 128 = 184 := by decide
      go_wp2_with (go_at_call 102; refine (from_53_53 _).mono ?_; rintro e w' ⟨rfl, rfl⟩)
      go_round
      case rel => exact Or.inr (Or.inr (⟨rfl, by go_num⟩))
      case measure => decide
    · go_wp2_with fail
      refine region_seqI (S := fun _ => True) [(true, 0), (false, 1), (true, 2), (true, 3), (true, 4), (false, 5), (true, 6), (true, 7), (true, 8), (true, 9), (false, 10), (true, 11), (true, 12), (true, 13), (true, 14), (false, 15), (true, 16), (true, 17), (true, 18), (true, 19), (true, 21), (true, 22), (true, 23), (false, 20), (true, 24), (true, 25)] (by kernel_rfl) (by kernel_rfl) rfl (by kernel_rfl) trivial ?_
      simp only [seqOps, List.getD_cons_zero, List.getD_cons_succ]
      refine seqI_take (v := .int .u16 184) rfl (fun w9 _ => (by go_simp)) (fun _ _ _ h => h) ?_
      simp only [Act.put, List.setIfInBounds_toArray, List.set_cons_zero, List.set_cons_succ]
      refine seqI_call 118 #[.int .u16 184] rfl (by go_simp) (ones_184 _) ?_
      rintro e w9 ⟨rfl, nq, rfl⟩
      refine ⟨_, rfl, trivial, ?_⟩
      simp only [Act.put, List.setIfInBounds_toArray, List.set_cons_zero, List.set_cons_succ]
      refine seqI_take (v := .bool false) rfl (fun w9 _ => (by go_simp)) (fun _ _ _ h => h) ?_
      simp only [Act.put, List.setIfInBounds_toArray, List.set_cons_zero, List.set_cons_succ]
      refine seqI_take (v := .bool false) rfl (fun w9 _ => (by go_simp)) (fun _ _ _ h => h) ?_
      simp only [Act.put, List.setIfInBounds_toArray, List.set_cons_zero, List.set_cons_succ]
      refine seqI_take (v := .int .u16 184) rfl (fun w9 _ => (by go_simp)) (fun _ _ _ h => h) ?_
      simp only [Act.put, List.setIfInBounds_toArray, List.set_cons_zero, List.set_cons_succ]
      refine seqI_call 102 #[.int .u8 48, .int .u8 57] rfl (by go_simp) (from_48_57 _) ?_
      rintro e w9 ⟨rfl, rfl⟩
      refine ⟨_, rfl, trivial, ?_⟩
      simp only [Act.put, List.setIfInBounds_toArray, List.set_cons_zero, List.set_cons_succ]
      refine seqI_take (v := .bool false) rfl (fun w9 _ => (by go_simp)) (fun _ _ _ h => h) ?_
      simp only [Act.put, List.setIfInBounds_toArray, List.set_cons_zero, List.set_cons_succ]
      refine seqI_take (v := .bool false) rfl (fun w9 _ => (by go_simp)) (fun _ _ _ h => h) ?_
      simp only [Act.put, List.setIfInBounds_toArray, List.set_cons_zero, List.set_cons_succ]
      refine seqI_take (v := .bool false) rfl (fun w9 _ => (by go_simp)) (fun _ _ _ h => h) ?_
      simp only [Act.put, List.setIfInBounds_toArray, List.set_cons_zero, List.set_cons_succ]
      refine seqI_take (v := .int .u16 184) rfl (fun w9 _ => (by go_simp)) (fun _ _ _ h => h) ?_
      simp only [Act.put, List.setIfInBounds_toArray, List.set_cons_zero, List.set_cons_succ]
      refine seqI_call 102 #[.int .u8 49, .int .u8 57] rfl (by go_simp) (from_49_57 _) ?_
      rintro e w9 ⟨rfl, rfl⟩
      refine ⟨_, rfl, trivial, ?_⟩
      simp only [Act.put, List.setIfInBounds_toArray, List.set_cons_zero, List.set_cons_succ]
      refine seqI_take (v := .bool false) rfl (fun w9 _ => (by go_simp)) (fun _ _ _ h => h) ?_
      simp only [Act.put, List.setIfInBounds_toArray, List.set_cons_zero, List.set_cons_succ]
      refine seqI_take (v := .bool false) rfl (fun w9 _ => (by go_simp)) (fun _ _ _ h => h) ?_
      simp only [Act.put, List.setIfInBounds_toArray, List.set_cons_zero, List.set_cons_succ]
      refine seqI_take (v := .bool false) rfl (fun w9 _ => (by go_simp)) (fun _ _ _ h => h) ?_
      simp only [Act.put, List.setIfInBounds_toArray, List.set_cons_zero, List.set_cons_succ]
      refine seqI_take (v := .int .u16 184) rfl (fun w9 _ => (by go_simp)) (fun _ _ _ h => h) ?_
      simp only [Act.put, List.setIfInBounds_toArray, List.set_cons_zero, List.set_cons_succ]
      refine seqI_call 102 #[.int .u8 50, .int .u8 57] rfl (by go_simp) (from_29 _) ?_
      rintro e w9 ⟨rfl, rfl⟩
      refine ⟨_, rfl, trivial, ?_⟩
      simp only [Act.put, List.setIfInBounds_toArray, List.set_cons_zero, List.set_cons_succ]
      refine seqI_take (v := .bool false) rfl (fun w9 _ => (by go_simp)) (fun _ _ _ h => h) ?_
      simp only [Act.put, List.setIfInBounds_toArray, List.set_cons_zero, List.set_cons_succ]
      refine seqI_take (v := .bool false) rfl (fun w9 _ => (by go_simp)) (fun _ _ _ h => h) ?_
      simp only [Act.put, List.setIfInBounds_toArray, List.set_cons_zero, List.set_cons_succ]
      refine seqI_take (v := .bool false) rfl (fun w9 _ => (by go_simp)) (fun _ _ _ h => h) ?_
      simp only [Act.put, List.setIfInBounds_toArray, List.set_cons_zero, List.set_cons_succ]
      refine seqI_take (v := .int .u16 184) rfl (fun w9 _ => (by go_simp)) (fun _ _ _ h => h) ?_
      simp only [Act.put, List.setIfInBounds_toArray, List.set_cons_zero, List.set_cons_succ]
      refine seqI_take (v := .string s) rfl (fun w9 _ => (by go_simp)) (fun _ _ _ h => h) ?_
      simp only [Act.put, List.setIfInBounds_toArray, List.set_cons_zero, List.set_cons_succ]
      refine seqI_take (v := .int .i64 4) rfl (fun w9 _ => (by go_simp)) (fun _ _ _ h => h) ?_
      simp only [Act.put, List.setIfInBounds_toArray, List.set_cons_zero, List.set_cons_succ]
      refine seqI_take (v := .string (s.extract 0 4)) rfl (fun w9 _ => (by go_simp; intro h9; exfalso; omega)) (fun _ _ _ h => h) ?_
      simp only [Act.put, List.setIfInBounds_toArray, List.set_cons_zero, List.set_cons_succ]
      refine seqI_call 119 #[.int .u16 184] rfl (by go_simp) (digits_184 _) ?_
      rintro e w9 ⟨rfl, hB9⟩
      refine ⟨_, rfl, trivial, ?_⟩
      simp only [Act.put, List.setIfInBounds_toArray, List.set_cons_zero, List.set_cons_succ]
      refine seqI_take (v := .bool false) rfl (fun w9 _ => (by go_simp)) (fun _ _ _ h => h) ?_
      simp only [Act.put, List.setIfInBounds_toArray, List.set_cons_zero, List.set_cons_succ]
      refine seqI_take (v := .bool false) rfl (fun w9 _ => (by go_simp)) (fun _ _ _ h => h) ?_
      simp only [Act.put, List.setIfInBounds_toArray, List.set_cons_zero, List.set_cons_succ]
      refine seqI_nil ?_
      go_wp2_with fail
      go_ret2
      exact ⟨rfl, (by (try show Below _ _ _); repeat (with_reducible first | exact Below.refl _ _ | assumption | exact Hid.out (by assumption) | refine ext_alloc ?_ | refine ext_drewN ?_ | refine ext_drew ?_ | refine ext_setCell ?_ (Nat.le_refl _) | refine ext_setCell ?_ (Nat.le_succ _) | refine ext_trans ?_ (by assumption) | (refine ext_setCell ?_ (by simp)) | (refine ext_setCell ?_ (by simp at *; omega))))⟩

/-- What element answers. -/
def ElemPost (n : Nat) (w : World) (e : Ending) (w' : World) : Prop := e = .returned (.tuple #[.int .u16 (elM n), .int .i64 (elS n).length]) ∧ Below w.heap.size w w'
theorem tail_str (s : ByteArray) (l : List UInt8) (b : UInt8) (hs : s.data.toList = b :: l) : (s.extract 1 s.size).data.toList = l := by
  rw [Lib.extract_eq]
  have : s.size = l.length + 1 := by
    show s.data.size = _
    rw [← Array.length_toList, hs]; rfl
  rw [hs, this]
  simp
set_option maxRecDepth 100000 in
set_option maxHeartbeats 1000000 in
theorem element_at_0 (s : ByteArray) (rest : List UInt8) (hs : s.data.toList = 42 :: rest) (hr : rest.length ≤ 1000) (w : World) : Calls Tryd.prog 76 #[.string s] w (ElemPost 0 w) := by
  have hsz : s.size = rest.length + 1 := by
    show s.data.size = _
    rw [← Array.length_toList, hs]; rfl
  have p0 : 0 < s.size := by omega
  have x0 : (s[0]'p0).toNat = 42 := byte_at s 0 42 p0 (by rw [hs]; rfl)
  have z1 : s.size ≤ 2000 := by omega
  have hcon := fun w => signs_index 42 w
  rw [show Lib.indexByte signsL (42 : Int).toNat.toUInt8 = 1 by decide] at hcon
  have HC := Lib.hid hcon
  clear hs hsz hcon
  go_enter Tryd.func76, Tryd.ntmps76
  go_wp2_with (first | (go_at_call 104; refine (HC.out _).mono ?_; rintro e w' ⟨rfl, rfl⟩) | (go_at_call 84; refine (only_42 _).mono ?_; rintro e w' ⟨rfl, rfl⟩))
  go_ret2
  exact ⟨rfl, Below.refl _ _⟩
set_option maxRecDepth 100000 in
set_option maxHeartbeats 1000000 in
theorem element_at_1 (s : ByteArray) (rest : List UInt8) (hs : s.data.toList = 48 :: rest) (hr : rest.length ≤ 1000) (w : World) : Calls Tryd.prog 76 #[.string s] w (ElemPost 1 w) := by
  have hsz : s.size = rest.length + 1 := by
    show s.data.size = _
    rw [← Array.length_toList, hs]; rfl
  have p0 : 0 < s.size := by omega
  have x0 : (s[0]'p0).toNat = 48 := byte_at s 0 48 p0 (by rw [hs]; rfl)
  have z1 : s.size ≤ 2000 := by omega
  have hcon := fun w => signs_index 48 w
  rw [show Lib.indexByte signsL (48 : Int).toNat.toUInt8 = 2 by decide] at hcon
  have HC := Lib.hid hcon
  clear hs hsz hcon
  go_enter Tryd.func76, Tryd.ntmps76
  go_wp2_with (first | (go_at_call 104; refine (HC.out _).mono ?_; rintro e w' ⟨rfl, rfl⟩) | (go_at_call 84; refine (only_48 _).mono ?_; rintro e w' ⟨rfl, rfl⟩))
  go_ret2
  exact ⟨rfl, Below.refl _ _⟩
set_option maxRecDepth 100000 in
set_option maxHeartbeats 1000000 in
theorem element_at_2 (s : ByteArray) (rest : List UInt8) (hs : s.data.toList = 49 :: rest) (hr : rest.length ≤ 1000) (w : World) : Calls Tryd.prog 76 #[.string s] w (ElemPost 2 w) := by
  have hsz : s.size = rest.length + 1 := by
    show s.data.size = _
    rw [← Array.length_toList, hs]; rfl
  have p0 : 0 < s.size := by omega
  have x0 : (s[0]'p0).toNat = 49 := byte_at s 0 49 p0 (by rw [hs]; rfl)
  have z1 : s.size ≤ 2000 := by omega
  have hcon := fun w => signs_index 49 w
  rw [show Lib.indexByte signsL (49 : Int).toNat.toUInt8 = 3 by decide] at hcon
  have HC := Lib.hid hcon
  clear hs hsz hcon
  go_enter Tryd.func76, Tryd.ntmps76
  go_wp2_with (first | (go_at_call 104; refine (HC.out _).mono ?_; rintro e w' ⟨rfl, rfl⟩) | (go_at_call 84; refine (only_49 _).mono ?_; rintro e w' ⟨rfl, rfl⟩))
  go_ret2
  exact ⟨rfl, Below.refl _ _⟩
set_option maxRecDepth 100000 in
set_option maxHeartbeats 1000000 in
theorem element_at_3 (s : ByteArray) (rest : List UInt8) (hs : s.data.toList = 50 :: rest) (hr : rest.length ≤ 1000) (w : World) : Calls Tryd.prog 76 #[.string s] w (ElemPost 3 w) := by
  have hsz : s.size = rest.length + 1 := by
    show s.data.size = _
    rw [← Array.length_toList, hs]; rfl
  have p0 : 0 < s.size := by omega
  have x0 : (s[0]'p0).toNat = 50 := byte_at s 0 50 p0 (by rw [hs]; rfl)
  have z1 : s.size ≤ 2000 := by omega
  have hcon := fun w => signs_index 50 w
  rw [show Lib.indexByte signsL (50 : Int).toNat.toUInt8 = 4 by decide] at hcon
  have HC := Lib.hid hcon
  clear hs hsz hcon
  go_enter Tryd.func76, Tryd.ntmps76
  go_wp2_with (first | (go_at_call 104; refine (HC.out _).mono ?_; rintro e w' ⟨rfl, rfl⟩) | (go_at_call 84; refine (only_50 _).mono ?_; rintro e w' ⟨rfl, rfl⟩))
  go_ret2
  exact ⟨rfl, Below.refl _ _⟩
set_option maxRecDepth 100000 in
set_option maxHeartbeats 1000000 in
theorem element_at_4 (s : ByteArray) (rest : List UInt8) (hs : s.data.toList = 57 :: rest) (hr : rest.length ≤ 1000) (w : World) : Calls Tryd.prog 76 #[.string s] w (ElemPost 4 w) := by
  have hsz : s.size = rest.length + 1 := by
    show s.data.size = _
    rw [← Array.length_toList, hs]; rfl
  have p0 : 0 < s.size := by omega
  have x0 : (s[0]'p0).toNat = 57 := byte_at s 0 57 p0 (by rw [hs]; rfl)
  have z1 : s.size ≤ 2000 := by omega
  have hcon := fun w => signs_index 57 w
  rw [show Lib.indexByte signsL (57 : Int).toNat.toUInt8 = 11 by decide] at hcon
  have HC := Lib.hid hcon
  clear hs hsz hcon
  go_enter Tryd.func76, Tryd.ntmps76
  go_wp2_with (first | (go_at_call 104; refine (HC.out _).mono ?_; rintro e w' ⟨rfl, rfl⟩) | (go_at_call 84; refine (only_57 _).mono ?_; rintro e w' ⟨rfl, rfl⟩))
  go_ret2
  exact ⟨rfl, Below.refl _ _⟩
set_option maxRecDepth 100000 in
set_option maxHeartbeats 1000000 in
theorem element_at_5 (s : ByteArray) (rest : List UInt8) (hs : s.data.toList = 91 :: 49 :: 50 :: 93 :: rest) (hr : rest.length ≤ 1000) (w : World) : Calls Tryd.prog 76 #[.string s] w (ElemPost 5 w) := by
  have hsz : s.size = rest.length + 4 := by
    show s.data.size = _
    rw [← Array.length_toList, hs]; rfl
  have p0 : 0 < s.size := by omega
  have x0 : (s[0]'p0).toNat = 91 := byte_at s 0 91 p0 (by rw [hs]; rfl)
  have z1 : s.size ≤ 2000 := by omega
  have HS := Lib.hid (tail_str s _ _ hs)
  clear hs hsz
  go_enter Tryd.func76, Tryd.ntmps76
  go_wp2_with fail
  refine (readSet_5 _ rest HS.out hr _).mono ?_
  rintro e w1 ⟨rfl, hB1⟩
  go_wp2_with fail
  go_ret2
  exact ⟨rfl, hB1⟩
set_option maxRecDepth 100000 in
set_option maxHeartbeats 1000000 in
theorem element_at_6 (s : ByteArray) (rest : List UInt8) (hs : s.data.toList = 91 :: 50 :: 57 :: 93 :: rest) (hr : rest.length ≤ 1000) (w : World) : Calls Tryd.prog 76 #[.string s] w (ElemPost 6 w) := by
  have hsz : s.size = rest.length + 4 := by
    show s.data.size = _
    rw [← Array.length_toList, hs]; rfl
  have p0 : 0 < s.size := by omega
  have x0 : (s[0]'p0).toNat = 91 := byte_at s 0 91 p0 (by rw [hs]; rfl)
  have z1 : s.size ≤ 2000 := by omega
  have HS := Lib.hid (tail_str s _ _ hs)
  clear hs hsz
  go_enter Tryd.func76, Tryd.ntmps76
  go_wp2_with fail
  refine (readSet_6 _ rest HS.out hr _).mono ?_
  rintro e w1 ⟨rfl, hB1⟩
  go_wp2_with fail
  go_ret2
  exact ⟨rfl, hB1⟩
set_option maxRecDepth 100000 in
set_option maxHeartbeats 1000000 in
theorem element_at_7 (s : ByteArray) (rest : List UInt8) (hs : s.data.toList = 91 :: 50 :: 45 :: 52 :: 93 :: rest) (hr : rest.length ≤ 1000) (w : World) : Calls Tryd.prog 76 #[.string s] w (ElemPost 7 w) := by
  have hsz : s.size = rest.length + 5 := by
    show s.data.size = _
    rw [← Array.length_toList, hs]; rfl
  have p0 : 0 < s.size := by omega
  have x0 : (s[0]'p0).toNat = 91 := byte_at s 0 91 p0 (by rw [hs]; rfl)
  have z1 : s.size ≤ 2000 := by omega
  have HS := Lib.hid (tail_str s _ _ hs)
  clear hs hsz
  go_enter Tryd.func76, Tryd.ntmps76
  go_wp2_with fail
  refine (readSet_7 _ rest HS.out hr _).mono ?_
  rintro e w1 ⟨rfl, hB1⟩
  go_wp2_with fail
  go_ret2
  exact ⟨rfl, hB1⟩
set_option maxRecDepth 100000 in
set_option maxHeartbeats 1000000 in
theorem element_at_8 (s : ByteArray) (rest : List UInt8) (hs : s.data.toList = 91 :: 49 :: 45 :: 51 :: 53 :: 93 :: rest) (hr : rest.length ≤ 1000) (w : World) : Calls Tryd.prog 76 #[.string s] w (ElemPost 8 w) := by
  have hsz : s.size = rest.length + 6 := by
    show s.data.size = _
    rw [← Array.length_toList, hs]; rfl
  have p0 : 0 < s.size := by omega
  have x0 : (s[0]'p0).toNat = 91 := byte_at s 0 91 p0 (by rw [hs]; rfl)
  have z1 : s.size ≤ 2000 := by omega
  have HS := Lib.hid (tail_str s _ _ hs)
  clear hs hsz
  go_enter Tryd.func76, Tryd.ntmps76
  go_wp2_with fail
  refine (readSet_8 _ rest HS.out hr _).mono ?_
  rintro e w1 ⟨rfl, hB1⟩
  go_wp2_with fail
  go_ret2
  exact ⟨rfl, hB1⟩
set_option maxRecDepth 100000 in
set_option maxHeartbeats 1000000 in
theorem element_at_9 (s : ByteArray) (rest : List UInt8) (hs : s.data.toList = 78 :: rest) (hr : rest.length ≤ 1000) (w : World) : Calls Tryd.prog 76 #[.string s] w (ElemPost 9 w) := by
  have hsz : s.size = rest.length + 1 := by
    show s.data.size = _
    rw [← Array.length_toList, hs]; rfl
  have p0 : 0 < s.size := by omega
  have x0 : (s[0]'p0).toNat = 78 := byte_at s 0 78 p0 (by rw [hs]; rfl)
  have z1 : s.size ≤ 2000 := by omega
  clear hs hsz
  go_enter Tryd.func76, Tryd.ntmps76
  go_wp2_with (go_at_call 102; refine (from_29 _).mono ?_; rintro e w' ⟨rfl, rfl⟩)
  go_ret2
  exact ⟨rfl, Below.refl _ _⟩
set_option maxRecDepth 100000 in
set_option maxHeartbeats 1000000 in
theorem element_at_10 (s : ByteArray) (rest : List UInt8) (hs : s.data.toList = 90 :: rest) (hr : rest.length ≤ 1000) (w : World) : Calls Tryd.prog 76 #[.string s] w (ElemPost 10 w) := by
  have hsz : s.size = rest.length + 1 := by
    show s.data.size = _
    rw [← Array.length_toList, hs]; rfl
  have p0 : 0 < s.size := by omega
  have x0 : (s[0]'p0).toNat = 90 := byte_at s 0 90 p0 (by rw [hs]; rfl)
  have z1 : s.size ≤ 2000 := by omega
  clear hs hsz
  go_enter Tryd.func76, Tryd.ntmps76
  go_wp2_with (go_at_call 102; refine (from_49_57 _).mono ?_; rintro e w' ⟨rfl, rfl⟩)
  go_ret2
  exact ⟨rfl, Below.refl _ _⟩
set_option maxRecDepth 100000 in
set_option maxHeartbeats 1000000 in
theorem element_at_11 (s : ByteArray) (rest : List UInt8) (hs : s.data.toList = 88 :: rest) (hr : rest.length ≤ 1000) (w : World) : Calls Tryd.prog 76 #[.string s] w (ElemPost 11 w) := by
  have hsz : s.size = rest.length + 1 := by
    show s.data.size = _
    rw [← Array.length_toList, hs]; rfl
  have p0 : 0 < s.size := by omega
  have x0 : (s[0]'p0).toNat = 88 := byte_at s 0 88 p0 (by rw [hs]; rfl)
  have z1 : s.size ≤ 2000 := by omega
  clear hs hsz
  go_enter Tryd.func76, Tryd.ntmps76
  go_wp2_with (go_at_call 102; refine (from_48_57 _).mono ?_; rintro e w' ⟨rfl, rfl⟩)
  go_ret2
  exact ⟨rfl, Below.refl _ _⟩
theorem element_any (n : Nat) (hn : n < 12) (s : ByteArray) (rest : List UInt8) (hs : s.data.toList = elS n ++ rest) (hr : rest.length ≤ 1000) (w : World) : Calls Tryd.prog 76 #[.string s] w (ElemPost n w) := by
  match n, hn with
  | 0, _ => exact element_at_0 s rest hs hr w
  | 1, _ => exact element_at_1 s rest hs hr w
  | 2, _ => exact element_at_2 s rest hs hr w
  | 3, _ => exact element_at_3 s rest hs hr w
  | 4, _ => exact element_at_4 s rest hs hr w
  | 5, _ => exact element_at_5 s rest hs hr w
  | 6, _ => exact element_at_6 s rest hs hr w
  | 7, _ => exact element_at_7 s rest hs hr w
  | 8, _ => exact element_at_8 s rest hs hr w
  | 9, _ => exact element_at_9 s rest hs hr w
  | 10, _ => exact element_at_10 s rest hs hr w
  | 11, _ => exact element_at_11 s rest hs hr w
end Go.Proofs.YtkfflafhlgephaaDoor
