/- What is proved here: the digits of a string of letters (Keys), as the program and as the reference reckon. Condition: a bound on the length. -/
import Derived.Test.YtbimecknmojnoaaGreatDoorFormKeys
import Derived.Test.YtbimecknmojnoaaGreatDoorPlanBuild
import Derived.Test.YtbimecknmojnoaaGreatDoorIntRows
import Derived.Laws.AppendOwn
import Derived.Laws.BytesString
import Derived.Laws.IdiomStrings
import Derived.StillTailTactics
set_option linter.unusedVariables false
set_option linter.unusedSimpArgs false
namespace Go.Proofs.YtbimecknmojnoaaGreatDoor
open Go.RowKit

theorem Tryz.infoByte : (Tryz.prog.info? 5).map (fun i => (i.zero, i.size, i.bytes)) = some (some (.int .u8 0), 1, 1) := by kernel_rfl
theorem add0 (b j : Nat) : (⟨b, 0, none⟩ : Addr).add j = ⟨b, j, none⟩ := by unfold Addr.add; split <;> simp_all
theorem new_cell (w : World) (cs : Array Value) (t : TypeId) (p : Nat × Nat) (j : Nat) : (w.alloc (.cells cs t p)).cell? ⟨w.heap.size, j, none⟩ = cs[j]? := by
  have h : (w.alloc (.cells cs t p)).heap[w.heap.size]? = some (.cells cs t p) := by show (w.heap.push _)[w.heap.size]? = _; simp
  simp only [World.cell?, h]
  rfl
theorem snoc_take {s : List UInt8} {k : Nat} {c : UInt8} (hk : k < s.length) (hc : s.getD k 0 = c) : (s.take (k + 1)).map keyB = (s.take k).map keyB ++ [keyB c] := by
  rw [List.take_add_one, List.map_append, List.getElem?_eq_getElem hk]
  simp [hk] at hc
  simp [hc]
theorem push_list : ∀ (l : List UInt8) (r : ByteArray), (l.map (fun b => (b.toNat : Int))).foldl (fun r n => r.push (UInt8.ofNat n.toNat)) r = ⟨r.data ++ l.toArray⟩ := foldl_push_byteCells
/-- Bytes as a string. -/
theorem str_back (w : World) (g cp : Nat) (l : List UInt8) (hc : ∀ j (hj : j < l.length), w.cell? ⟨g, j, none⟩ = some (.int .u8 (l[j].toNat : Int))) : (convert 164 9 (.slice (some ⟨g, 0, none⟩) l.length cp)).run Tryz.prog w = .ok (.string ⟨l.toArray⟩) w :=
  run_convert_bytes_back w 164 9 5 ⟨g, 0, none⟩ cp l Tryz.underlying164 Tryz.underlying5 Tryz.underlying9 (fun j hj => by rw [add0]; exact hc j hj)

def cellsB (l : List UInt8) : List Value := l.map fun b => .int .u8 b.toNat
def keysR (s : List UInt8) : Int × List UInt8 := if 60 < s.length then (2, []) else match keysB s with | none => (3, []) | some x => (0, x)
def StrPost (r : Int × List UInt8) (w : World) (e : Ending) (w' : World) : Prop := e = .returned (.tuple #[.string ⟨r.2.toArray⟩, .int .i64 r.1]) ∧ Below w.heap.size w w'

theorem keys_bad {s : List UInt8} {k : Nat} (hk : k < s.length) (h : keyB (s.getD k 0) = 0) : keysB s = none := by
  unfold keysB
  rw [if_pos]
  rw [List.any_eq_true]
  exact ⟨s[k], List.getElem_mem hk, by simpa [hk] using h⟩
theorem keys_good {s : List UInt8} (h : ∀ j, j < s.length → keyB (s.getD j 0) ≠ 0) : keysB s = some (s.map keyB) := by
  unfold keysB
  rw [if_neg]
  rw [List.any_eq_true]
  rintro ⟨x, hx, h2⟩
  obtain ⟨i, hi, rfl⟩ := List.getElem_of_mem hx
  have := h i hi
  simp [hi] at this h2
  exact this h2
theorem byte_zero {c : UInt8} : ((c.toNat : Int) = 0) ↔ c = 0 := by
  constructor
  · intro h
    have : c.toNat = 0 := by omega
    exact UInt8.toNat_inj.1 (by simpa using this)
  · rintro rfl; rfl

set_option maxRecDepth 100000 in
set_option maxHeartbeats 2000000 in
theorem keysOf_any (s : List UInt8) (hs : s.length ≤ 1000) (w : World) : Calls Tryz.prog 80 #[.string ⟨s.toArray⟩] w (StrPost (keysR s) w) := by
  have HDEF : Hid (keysR s = if 60 < s.length then ((2 : Int), ([] : List UInt8)) else match keysB s with | none => (3, []) | some x => (0, x)) := rfl
  generalize keysR s = R at HDEF ⊢
  obtain ⟨i0, hi, hz0, hz1, hz2⟩ := info_parts Tryz.infoByte
  by_cases hbig : 60 < s.length
  · have HR : Hid (R = (2, [])) := by show _ = _; rw [HDEF.out, if_pos hbig]
    go_enter Tryz.func80, Tryz.ntmps80
    go_wp2_with fail
    go_ret2
    exact ⟨by rw [HR.out]; rfl, Below.refl _ _⟩
  · have HD2 : Hid (R = match keysB s with | none => (3, []) | some x => (0, x)) := by show _ = _; rw [HDEF.out, if_neg hbig]
    clear HDEF
    have hcv := run_bytes_of_string (P := Tryz.prog) w 9 164 5 ⟨s.toArray⟩ Tryz.underlying9 Tryz.underlying164 Tryz.underlying5
    go_enter Tryz.func80, Tryz.ntmps80
    go_wp2_with fail
    go_loopw [4, 14] (fun v i wr => ∃ k : Nat, k ≤ s.length ∧ i = .int .i64 k ∧ Hid (∀ j, j < k → keyB (s.getD j 0) ≠ 0) ∧ Hid (wr.ownsRow (w.heap.size + 1) 5 1 v k (cellsB ((s.take k).map keyB))) ∧ Hid (∀ j, j < s.length → wr.cell? ⟨w.heap.size, j, none⟩ = some (.int .u8 (s.getD j 0).toNat)) ∧ Hid (Below w.heap.size w wr) ∧ Hid (w.heap.size + 1 ≤ wr.heap.size)) (fun _ i _ => s.length - (intOf i).toNat)
    case atStart =>
      refine ⟨0, by omega, rfl, fun j hj => by omega, World.ownsRow_nil _ _ _ _, fun j hj => ?_, (by (try show Below _ _ _); repeat (with_reducible first | exact Below.refl _ _ | assumption | exact Hid.out (by assumption) | refine ext_alloc ?_ | refine ext_drewN ?_ | refine ext_drew ?_ | refine ext_setCell ?_ (Nat.le_refl _) | refine ext_setCell ?_ (Nat.le_succ _) | refine ext_trans ?_ (by assumption) | (refine ext_setCell ?_ (by simp)) | (refine ext_setCell ?_ (by simp at *; omega)))), by show _ ≤ _; simp⟩
      have := bytesRow_at ⟨s.toArray⟩ (grownCap w s.length 0 5) j (by simpa using hj)
      go_simp
      rw [new_cell, this]
      simp [hj]
    case round =>
      obtain ⟨k, hk, rfl, HG, HO, HC, HB, HZ⟩ := hrel
      by_cases hlt : k < s.length
      · have c1 := HC.out k hlt
        have HCK : Hid (s.getD k 0 = s.getD k 0) := rfl
        generalize hc : s.getD k 0 = c at c1
        have HKEY := Lib.hid (fun w => keyOf_any c w)
        have HCE := Lib.hid hc
        clear hc HCK
        go_wp2_with fail
        refine (HKEY.out _).mono ?_
        rintro e w' ⟨rfl, rfl⟩
        have HQ : Hid ((keyB c).toNat = (keyB c).toNat) := rfl
        generalize hq : (keyB c).toNat = q
        have HQE := Lib.hid hq
        clear hq HQ
        by_cases h0 : q = 0
        · subst h0
          have HF : Hid (R = (3, [])) := by
            show _ = _
            rw [HD2.out, keys_bad hlt (by rw [HCE.out]; exact UInt8.toNat_inj.1 (by simpa using HQE.out))]
          go_wp2_with fail
          go_ret2
          exact ⟨by rw [HF.out]; rfl, HB.out⟩
        · have hne : ((q : Int) == 0) = false := by simp; omega
          have hz1' := HZ.out
          have hrow := fun b e => (HO.out.lt b e).1
          have HOA := Lib.hid (HO.out.alloc (.cells #[.int .u8 q] 5))
          go_wp2_with (at_builtin; refine wpList_append_own _ rfl (.tmp 22) (.tmp 24) 164 rfl (w.heap.size + 1) 5 i0 (.int .u8 0) 1 1 Tryz.underlying164 hi hz0 hz1 hz2 rfl (by decide) _ k _ rfl HOA.out ⟨w'.heap.size, 0, none⟩ 1 1 [.int .u8 q] rfl rfl (news_one (by go_simp)) (by simp [Value.oneCell']) (by simp only [maxLen]; omega) (by omega) (by simp; omega) ?_; intro v6 w6 hown6 hgr6 _)
          have HO7 : Hid (w6.ownsRow (w.heap.size + 1) 5 1 v6 (k + 1) (cellsB ((s.take (k + 1)).map keyB))) := by
            show World.ownsRow _ _ _ _ _ _ _
            rw [snoc_take hlt HCE.out, cellsB, List.map_append]
            have : [Value.int .u8 (q : Int)] = List.map (fun b : UInt8 => Value.int .u8 b.toNat) [keyB c] := by simp [HQE.out]
            rw [← this]
            exact hown6
          have hup : Below (w.heap.size + 1) w' w6 := upto_grown hgr6 (by omega) hrow
          have HB7 : Hid (Below w.heap.size w w6) := HB.out.trans (hup.mono (by omega))
          have HC7 : Hid (∀ j, j < s.length → w6.cell? ⟨w.heap.size, j, none⟩ = some (.int .u8 (s.getD j 0).toNat)) := fun j hj => (hup.cell (p := ⟨w.heap.size, j, none⟩) (by simp)).trans (HC.out j hj)
          have HZ7 : Hid (w.heap.size + 1 ≤ w6.heap.size) := Nat.le_trans hz1' hup.size
          have HG7 : Hid (∀ j, j < k + 1 → keyB (s.getD j 0) ≠ 0) := fun j hj => by
            by_cases h : j < k
            · exact HG.out j h
            · obtain rfl : j = k := by omega
              rw [HCE.out]
              intro h9
              exact h0 (by rw [← HQE.out, h9]; rfl)
          clear hown6 hgr6 hup
          go_roundw
          case rel => exact ⟨k + 1, by omega, by go_num, HG7, HO7, HC7, HB7, HZ7⟩
          case measure => simp [intOf]; omega
      · obtain rfl : k = s.length := by omega
        have HF : Hid (R = (0, s.map keyB)) := by show _ = _; rw [HD2.out, keys_good HG.out]
        have HO2 := HO.out
        rw [List.take_length] at HO2
        rcases HO2.2 with ⟨rfl, h0⟩ | ⟨g, cv, cur, rfl, _⟩
        · have hy : s = [] := List.eq_nil_of_length_eq_zero h0
          have hcv2 := run_convert_bytes_nil (P := Tryz.prog) wr 164 5 Tryz.underlying164 Tryz.underlying5 0 0 9 Tryz.underlying9
          clear HO2 hcv
          subst hy
          go_wp2_with fail
          go_ret2
          exact ⟨by rw [HF.out]; rfl, HB.out⟩
        · have hcv2 := str_back wr g cv (s.map keyB) (fun j hj => by
            have hj' : j < s.length := by simpa using hj
            rw [HO2.cellAt j (by omega), cellsB, List.getElem?_map, List.getElem?_eq_getElem hj]; rfl)
          rw [List.length_map] at hcv2
          clear HO2 hcv
          go_wp2_with fail
          go_ret2
          exact ⟨by rw [HF.out]; rfl, HB.out⟩

theorem str_at {s : List UInt8} {k : Nat} (hk : k < s.length) (h2 : k < (⟨s.toArray⟩ : ByteArray).size) : (⟨s.toArray⟩ : ByteArray)[k]'h2 = s.getD k 0 := by
  simp [hk]; rfl

set_option maxRecDepth 100000 in
set_option maxHeartbeats 2000000 in
theorem keys_any (s : List UInt8) (hs : s.length ≤ 1000) (w : World) : Calls Tryz.prog 74 #[.string ⟨s.toArray⟩] w (StrPost (keysR s) w) := by
  have HDEF : Hid (keysR s = if 60 < s.length then ((2 : Int), ([] : List UInt8)) else match keysB s with | none => (3, []) | some x => (0, x)) := rfl
  generalize keysR s = R at HDEF ⊢
  by_cases hbig : 60 < s.length
  · have HR : Hid (R = (2, [])) := by show _ = _; rw [HDEF.out, if_pos hbig]
    go_enter Tryz.func74, Tryz.ntmps74
    go_wp2_with fail
    go_ret2
    exact ⟨by rw [HR.out]; rfl, Below.refl _ _⟩
  · have HD2 : Hid (R = match keysB s with | none => (3, []) | some x => (0, x)) := by show _ = _; rw [HDEF.out, if_neg hbig]
    clear HDEF
    obtain ⟨i0, hi, hz0, hz1, hz2⟩ := info_parts Tryz.infoByte
    have HB8 : Hid (i0.bytes * s.length ≤ 281474976710656) := by show _ ≤ _; rw [hz2]; omega
    have HML : Hid (s.length ≤ maxLen) := by show _ ≤ maxLen; unfold maxLen; omega
    go_enter Tryz.func74, Tryz.ntmps74
    go_wp2_with (at_make; refine wpList_make_full _ rfl (.tmp 10) (.tmp 10) 164 rfl w.heap.size 5 i0 (.int .u8 0) 1 Tryz.underlying164 hi hz0 hz1 .i64 .i64 _ _ s.length (by simp [Act.eval]) (by simp [Act.eval]) rfl rfl HB8.out HML.out (Nat.le_refl _) ?_; intro w1 hown1 hgr1)
    have hW1 := Lib.hid (below_of_grown_none hgr1)
    have HO : Hid (FillRow w1 w.heap.size 5 w.heap.size s.length 0 (cellsB (s.map keyB)) (.int .u8 0)) := FillRow.start (by simp [cellsB]) hown1
    clear hown1 hgr1
    go_loopw [14] (fun i wr => ∃ k : Nat, k ≤ s.length ∧ i = .int .i64 k ∧ Hid (∀ j, j < k → keyB (s.getD j 0) ≠ 0) ∧ Hid (Below w.heap.size w wr) ∧ Hid (FillRow wr w.heap.size 5 w.heap.size s.length k (cellsB (s.map keyB)) (.int .u8 0))) (fun i _ => s.length - (intOf i).toNat)
    case atStart => exact ⟨0, Nat.zero_le _, rfl, fun j hj => by omega, hW1, HO⟩
    case round =>
      obtain ⟨k, hk, rfl, HG, HB, HO2⟩ := hrel
      by_cases hlt : k < s.length
      · have hkl : k < (s.map keyB).length := by simpa using hlt
        obtain ⟨hst, ⟨u, hu⟩, hf⟩ := HO2.out.step hlt (show (cellsB (s.map keyB))[k]? = some (.int .u8 (keyB (s.getD k 0)).toNat) by simp [cellsB, hlt])
        have ST := Lib.hid hst
        have hidx : k < (⟨s.toArray⟩ : ByteArray).size := hlt
        have HKEY := Lib.hid (fun w => key_any (s.getD k 0) w)
        have HSA := Lib.hid (str_at hlt hidx)
        clear hst
        go_wp2_with fail
        rw [str_at hlt]
        refine (HKEY.out _).mono ?_
        rintro e w' ⟨rfl, rfl⟩
        have HQ : Hid ((keyB (s.getD k 0)).toNat = (keyB (s.getD k 0)).toNat) := rfl
        generalize hq : (keyB (s.getD k 0)).toNat = q at ST ⊢
        have HQE := Lib.hid hq
        clear hq HQ
        by_cases h0 : q = 0
        · subst h0
          have HF : Hid (R = (3, [])) := by
            show _ = _
            rw [HD2.out, keys_bad hlt (UInt8.toNat_inj.1 (by simpa using HQE.out))]
          go_wp2_with fail
          go_ret2
          exact ⟨by rw [HF.out]; rfl, ext_setCell HB.out (Nat.le_refl _)⟩
        · have hne : ((q : Int) == 0) = false := by simp; omega
          have HG7 : Hid (∀ j, j < k + 1 → keyB (s.getD j 0) ≠ 0) := fun j hj => by
            by_cases h : j < k
            · exact HG.out j h
            · obtain rfl : j = k := by omega
              intro h9
              exact h0 (by rw [← HQE.out, h9]; rfl)
          go_wp2_with fail
          go_roundw
          case rel => exact ⟨k + 1, by omega, by go_num, HG7, ext_setCell HB.out (Nat.le_refl _), ST.out⟩
          case measure => simp [intOf]; omega
      · obtain rfl : k = s.length := by omega
        have HF : Hid (R = (0, s.map keyB)) := by show _ = _; rw [HD2.out, keys_good HG.out]
        have HO3 := HO2.out.done
        have hcv2 := str_back wr w.heap.size s.length (s.map keyB) (fun j hj => by
          have hj' : j < s.length := by simpa using hj
          rw [HO3.cellAt j (by omega), cellsB, List.getElem?_map, List.getElem?_eq_getElem hj]; rfl)
        rw [List.length_map] at hcv2
        clear HO3
        go_wp2_with fail
        go_ret2
        exact ⟨by rw [HF.out]; rfl, HB.out⟩
end Go.Proofs.YtbimecknmojnoaaGreatDoor
