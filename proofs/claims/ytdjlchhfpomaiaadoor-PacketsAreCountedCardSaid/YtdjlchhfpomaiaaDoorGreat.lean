/- What is proved here: what media.Great answers. Condition: the slice lies in memory as stated, and holds bytes. -/
import Derived.Test.YtdjlchhfpomaiaaDoorIntRows
import Derived.Test.YtdjlchhfpomaiaaDoorWithin
import Derived.Test.YtdjlchhfpomaiaaDoorReady
namespace Go.Proofs.YtdjlchhfpomaiaaDoor
open Go.RowKit
set_option linter.unusedVariables false
set_option linter.unusedSimpArgs false

def Samples (xs : List Int) : Prop := ∀ x ∈ xs, -32768 ≤ x ∧ x ≤ 32767
def Bytes (xs : List Int) : Prop := ∀ x ∈ xs, 0 ≤ x ∧ x ≤ 255
theorem mem_getD {xs : List Int} {i : Nat} (h : i < xs.length) : xs.getD i 0 ∈ xs := by
  rw [List.getD_eq_getElem?_getD, List.getElem?_eq_getElem h]; exact List.getElem_mem h

theorem Tryd.infoInt : (Tryd.prog.info? 3).map (fun i => (i.zero, i.size, i.bytes)) = some (some (.int .i64 0), 1, 8) := by kernel_rfl

/-- A call that hands back a new row and no error. -/
def RowPost (k : IntKind) (e : TypeId) (xs : List Int) (w : World) (en : Ending) (w' : World) : Prop :=
  ∃ v, en = .returned (.tuple #[v, .int .i64 0]) ∧ w'.ownsRow w.heap.size e 1 v xs.length (xs.map (Value.int k)) ∧ Below w.heap.size w w'

set_option maxRecDepth 100000 in
set_option maxHeartbeats 1000000 in
theorem great_any (w : World) (a : Option Addr) (n cap : Nat) (xs : List Int) (hr : IRow .u8 w a n xs) (hs : Bytes xs) (hn : n ≤ 20000) :
    Calls Tryd.prog 9 #[.slice a n cap] w (RowPost .i64 3 (xs.map expandI) w) := by
  obtain ⟨i0, hi, hz0, hz1, hz2⟩ := info_parts Tryd.infoInt
  have Hr := Lib.hid hr
  have Hs := Lib.hid hs
  clear hr hs
  have HB8 : Hid (i0.bytes * n ≤ 281474976710656) := by show _ ≤ _; rw [hz2]; omega
  have HML : Hid (n ≤ maxLen) := by show n ≤ maxLen; unfold maxLen; omega
  go_enter Tryd.func9, Tryd.ntmps9
  go_wp2_with (first | (at_make; refine wpList_make_full _ rfl (.tmp 11) (.tmp 11) 22 rfl w.heap.size 3 i0 (.int .i64 0) 1 Tryd.underlying22 hi hz0 hz1 .i64 .i64 _ _ n (by simp [Act.eval]) (by simp [Act.eval]) rfl rfl HB8.out HML.out (Nat.le_refl _) ?_; intro w1 hown1 hgr1))
  have hW1 := Lib.hid (below_of_grown_none hgr1)
  have HO : Hid (FillRow w1 w.heap.size 3 w.heap.size n 0 ((xs.map expandI).map (Value.int .i64)) (.int .i64 0)) := FillRow.start (by have := Hr.out.1; simp; omega) hown1
  clear hown1 hgr1
  go_loopw [15] (fun i wr => ∃ k : Nat, k ≤ n ∧ i = .int .i64 k ∧ Hid (Below w.heap.size w wr) ∧ Hid (FillRow wr w.heap.size 3 w.heap.size n k ((xs.map expandI).map (Value.int .i64)) (.int .i64 0))) (fun i _ => n - (intOf i).toNat)
  case atStart => exact ⟨0, Nat.zero_le _, rfl, hW1, HO⟩
  case round =>
    obtain ⟨k, hk, rfl, HB, HO2⟩ := hrel
    by_cases hlt : k < n
    · have hxl : k < xs.length := by rw [← Hr.out.1]; exact hlt
      rcases Hr.out.2 with h0 | ⟨b, off, rfl, hb, hc⟩
      · omega
      have c0 := (HB.out.cell (p := ⟨b, off + k, none⟩) hb).trans (hc k hlt)
      have hx := Hs.out _ (mem_getD (i := k) hxl)
      obtain ⟨hst, ⟨u, hu⟩, hf⟩ := HO2.out.step hlt (map_at hxl)
      have ST := Lib.hid hst
      clear hc hst hxl
      generalize xs.getD k 0 = x at c0 hx ST
      obtain ⟨x0, x1⟩ := hx
      go_wp2_with (go_at_call 28; refine (expand_any _ _ (by omega) (by omega)).mono ?_; rintro e w' ⟨rfl, rfl⟩)
      go_roundw
      case rel => exact ⟨k + 1, by omega, by go_num, ext_setCell HB.out (Nat.le_refl _), ST.out⟩
      case measure => simp [intOf]; omega
    · obtain rfl : k = n := by omega
      have hfin : Hid (wr.ownsRow w.heap.size 3 1 (.slice (some ⟨w.heap.size, 0, none⟩) k k) (xs.map expandI).length ((xs.map expandI).map (Value.int .i64))) := by
        have := HO2.out.done
        rwa [show (xs.map expandI).length = k by have := Hr.out.1; simp; omega]
      go_wp2_with fail
      go_ret2
      exact ⟨_, rfl, hfin.out, HB.out⟩

end Go.Proofs.YtdjlchhfpomaiaaDoor
