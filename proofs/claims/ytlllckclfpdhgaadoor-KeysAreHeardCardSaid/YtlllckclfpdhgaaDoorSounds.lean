/- What is proved here: what media.CheckSamples, Great and Small answer. Condition: the slices lie in memory as stated, and hold samples or bytes. -/
import Derived.Test.YtlllckclfpdhgaaDoorIntRows
import Derived.Test.YtlllckclfpdhgaaDoorCompress
import Derived.Test.YtlllckclfpdhgaaDoorReady
namespace Go.Proofs.YtlllckclfpdhgaaDoor
open Go.RowKit
set_option linter.unusedVariables false
set_option linter.unusedSimpArgs false

def Samples (xs : List Int) : Prop := ∀ x ∈ xs, -32768 ≤ x ∧ x ≤ 32767
def Bytes (xs : List Int) : Prop := ∀ x ∈ xs, 0 ≤ x ∧ x ≤ 255
theorem mem_getD {xs : List Int} {i : Nat} (h : i < xs.length) : xs.getD i 0 ∈ xs := by
  rw [List.getD_eq_getElem?_getD, List.getElem?_eq_getElem h]; exact List.getElem_mem h

set_option maxHeartbeats 1000000 in
theorem checkSamples_ok (w : World) (a : Option Addr) (n cap : Nat) (xs : List Int) (hr : IRow .i64 w a n xs) (hs : Samples xs) (hn : n ≤ 20000) :
    Calls Tryd.prog 30 #[.slice a n cap] w fun e w' => e = .returned (.int .i64 0) ∧ w = w' := by
  have Hr := Lib.hid hr
  have Hs := Lib.hid hs
  clear hr hs
  go_enter Tryd.func30, Tryd.ntmps30
  go_wp2_with fail
  go_loop [10] (fun i => ∃ k : Nat, k ≤ n ∧ i = .int .i64 k) (fun i => n - (intOf i).toNat)
  case atStart => exact ⟨0, Nat.zero_le _, rfl⟩
  case round =>
    obtain ⟨k, hk, rfl⟩ := hrel
    by_cases hlt : k < n
    · rcases Hr.out.2 with h0 | ⟨b, off, rfl, hb, hc⟩
      · omega
      have c0 := hc k hlt
      have hx := Hs.out _ (mem_getD (i := k) (by rw [← Hr.out.1]; exact hlt))
      clear hc
      generalize xs.getD k 0 = x at c0 hx
      obtain ⟨x0, x1⟩ := hx
      go_wp2_with (go_at_call 53; refine (isSample_yes _ _ (by omega) (by omega)).mono ?_; rintro e w' ⟨rfl, rfl⟩)
      go_round
      case rel => exact ⟨k + 1, by omega, by go_num⟩
      case measure => simp [intOf]; omega
    · go_wp2_with fail
      go_ret
      exact ⟨rfl, rfl⟩

theorem Tryd.infoInt : (Tryd.prog.info? 3).map (fun i => (i.zero, i.size, i.bytes)) = some (some (.int .i64 0), 1, 8) := by kernel_rfl

/-- A call that hands back a new row and no error. -/
def RowPost (k : IntKind) (e : TypeId) (xs : List Int) (w : World) (en : Ending) (w' : World) : Prop :=
  ∃ v, en = .returned (.tuple #[v, .int .i64 0]) ∧ w'.ownsRow w.heap.size e 1 v xs.length (xs.map (Value.int k)) ∧ Below w.heap.size w w'

set_option maxRecDepth 100000 in
set_option maxHeartbeats 1000000 in
theorem great_any (w : World) (a : Option Addr) (n cap : Nat) (xs : List Int) (hr : IRow .u8 w a n xs) (hs : Bytes xs) (hn : n ≤ 20000) :
    Calls Tryd.prog 24 #[.slice a n cap] w (RowPost .i64 3 (xs.map expandI) w) := by
  obtain ⟨i0, hi, hz0, hz1, hz2⟩ := info_parts Tryd.infoInt
  have Hr := Lib.hid hr
  have Hs := Lib.hid hs
  clear hr hs
  have HB8 : Hid (i0.bytes * n ≤ 281474976710656) := by show _ ≤ _; rw [hz2]; omega
  have HML : Hid (n ≤ maxLen) := by show n ≤ maxLen; unfold maxLen; omega
  go_enter Tryd.func24, Tryd.ntmps24
  go_wp2_with (first | (at_make; refine wpList_make_full _ rfl (.tmp 11) (.tmp 11) 22 rfl w.heap.size 3 i0 (.int .i64 0) 1 Tryd.underlying22 hi hz0 hz1 .i64 .i64 _ _ n (by simp [Act.eval]) (by simp [Act.eval]) rfl rfl HB8.out HML.out (Nat.le_refl _) ?_; intro w1 hown1 hgr1))
  have hW1 := Lib.hid (below_of_grown_none hgr1)
  have HO : Hid (FillRow w1 w.heap.size 3 w.heap.size n 0 ((xs.map expandI).map (Value.int .i64)) (.int .i64 0)) := FillRow.start (by have := Hr.out.1; simp; omega) hown1
  clear hown1 hgr1
  go_loopw [15] (fun i wr => ∃ k : Nat, k ≤ n ∧ i = .int .i64 k ∧ Hid (Below w.heap.size w wr) ∧ Hid (FillRow wr w.heap.size 3 w.heap.size n k ((xs.map expandI).map (Value.int .i64)) (.int .i64 0))) (fun i _ => n - (intOf i).toNat)
  case atStart => exact ⟨0, Nat.zero_le _, rfl, hW1, HO⟩
  case round =>
    obtain ⟨k, hk, rfl, HB, HO2⟩ := hrel
    by_cases hlt : k < n
    · have hxl : k < xs.length := by rw [← Hr.out.1]; exact hlt
      rcases Hr.out.2 with h0 | ⟨b, off, rfl, hb, hc⟩
      · omega
      have c0 := (HB.out.cell (p := ⟨b, off + k, none⟩) hb).trans (hc k hlt)
      have hx := Hs.out _ (mem_getD (i := k) hxl)
      obtain ⟨hst, ⟨u, hu⟩, hf⟩ := HO2.out.step hlt (map_at hxl)
      have ST := Lib.hid hst
      clear hc hst hxl
      generalize xs.getD k 0 = x at c0 hx ST
      obtain ⟨x0, x1⟩ := hx
      go_wp2_with (go_at_call 23; refine (expand_any _ _ (by omega) (by omega)).mono ?_; rintro e w' ⟨rfl, rfl⟩)
      go_roundw
      case rel => exact ⟨k + 1, by omega, by go_num, ext_setCell HB.out (Nat.le_refl _), ST.out⟩
      case measure => simp [intOf]; omega
    · obtain rfl : k = n := by omega
      have hfin : Hid (wr.ownsRow w.heap.size 3 1 (.slice (some ⟨w.heap.size, 0, none⟩) k k) (xs.map expandI).length ((xs.map expandI).map (Value.int .i64))) := by
        have := HO2.out.done
        rwa [show (xs.map expandI).length = k by have := Hr.out.1; simp; omega]
      go_wp2_with fail
      go_ret2
      exact ⟨_, rfl, hfin.out, HB.out⟩

set_option maxRecDepth 100000 in
set_option maxHeartbeats 1000000 in
theorem small_any (w : World) (a : Option Addr) (n cap : Nat) (xs : List Int) (hr : IRow .i64 w a n xs) (hs : Samples xs) (hn : n ≤ 20000) :
    Calls Tryd.prog 25 #[.slice a n cap] w (RowPost .u8 5 (xs.map compI) w) := by
  obtain ⟨i0, hi, hz0, hz1, hz2⟩ := info_parts Tryd.infoByte
  have Hr := Lib.hid hr
  have Hs := Lib.hid hs
  clear hr hs
  have HB8 : Hid (i0.bytes * n ≤ 281474976710656) := by show _ ≤ _; rw [hz2]; omega
  have HML : Hid (n ≤ maxLen) := by show n ≤ maxLen; unfold maxLen; omega
  go_enter Tryd.func25, Tryd.ntmps25
  go_wp2_with (first | (at_make; refine wpList_make_full _ rfl (.tmp 14) (.tmp 14) 42 rfl w.heap.size 5 i0 (.int .u8 0) 1 Tryd.underlying42 hi hz0 hz1 .i64 .i64 _ _ n (by simp [Act.eval]) (by simp [Act.eval]) rfl rfl HB8.out HML.out (Nat.le_refl _) ?_; intro w1 hown1 hgr1) | (go_at_call 30; refine (checkSamples_ok _ _ _ _ xs Hr.out Hs.out hn).mono ?_; rintro e w' ⟨rfl, rfl⟩))
  have hW1 := Lib.hid (below_of_grown_none hgr1)
  have HO : Hid (FillRow w1 w.heap.size 5 w.heap.size n 0 ((xs.map compI).map (Value.int .u8)) (.int .u8 0)) := FillRow.start (by have := Hr.out.1; simp; omega) hown1
  clear hown1 hgr1
  go_loopw [18] (fun i wr => ∃ k : Nat, k ≤ n ∧ i = .int .i64 k ∧ Hid (Below w.heap.size w wr) ∧ Hid (FillRow wr w.heap.size 5 w.heap.size n k ((xs.map compI).map (Value.int .u8)) (.int .u8 0))) (fun i _ => n - (intOf i).toNat)
  case atStart => exact ⟨0, Nat.zero_le _, rfl, hW1, HO⟩
  case round =>
    obtain ⟨k, hk, rfl, HB, HO2⟩ := hrel
    by_cases hlt : k < n
    · have hxl : k < xs.length := by rw [← Hr.out.1]; exact hlt
      rcases Hr.out.2 with h0 | ⟨b, off, rfl, hb, hc⟩
      · omega
      have c0 := (HB.out.cell (p := ⟨b, off + k, none⟩) hb).trans (hc k hlt)
      have hx := Hs.out _ (mem_getD (i := k) hxl)
      obtain ⟨hst, ⟨u, hu⟩, hf⟩ := HO2.out.step hlt (map_at hxl)
      have ST := Lib.hid hst
      clear hc hst hxl
      generalize xs.getD k 0 = x at c0 hx ST
      obtain ⟨x0, x1⟩ := hx
      go_wp2_with (go_at_call 22; refine (compress_any _ _ (by omega) (by omega)).mono ?_; rintro e w' ⟨rfl, rfl⟩)
      go_roundw
      case rel => exact ⟨k + 1, by omega, by go_num, ext_setCell HB.out (Nat.le_refl _), ST.out⟩
      case measure => simp [intOf]; omega
    · obtain rfl : k = n := by omega
      have hfin : Hid (wr.ownsRow w.heap.size 5 1 (.slice (some ⟨w.heap.size, 0, none⟩) k k) (xs.map compI).length ((xs.map compI).map (Value.int .u8))) := by
        have := HO2.out.done
        rwa [show (xs.map compI).length = k by have := Hr.out.1; simp; omega]
      go_wp2_with fail
      go_ret2
      exact ⟨_, rfl, hfin.out, HB.out⟩

end Go.Proofs.YtlllckclfpdhgaaDoor
