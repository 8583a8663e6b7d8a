/- What is proved here: Pick and Some of a stream hand out one of what they are given. Condition: the slice lies in memory as stated. -/
import Derived.Test.YtbimecknmojnoaaGreatDoorStream
namespace Go.Proofs.YtbimecknmojnoaaGreatDoor
open Go.RowKit
set_option linter.unusedVariables false

/-- One of some values is handed out. -/
def PickPost (S k : Nat) (P : Int → Prop) (w : World) (e : Ending) (w' : World) : Prop :=
  ∃ r : Int, e = .returned (.int .i64 r) ∧ P r ∧ StreamOk w' S k ∧ Keeps S w w'
def SomePost (S k : Nat) (P : List UInt8 → Prop) (w : World) (e : Ending) (w' : World) : Prop :=
  ∃ r : List UInt8, e = .returned (.string ⟨r.toArray⟩) ∧ P r ∧ StreamOk w' S k ∧ Keeps S w w'

theorem pick_any (S k b n c : Nat) (vals : List Int) (P : Int → Prop) (w : World) (h : StreamOk w S k) (hk : k ≤ 1000000000) (hb : b < w.heap.size) (hS : b ≠ S) (h1 : 1 ≤ n) (h2 : n ≤ 1000) (hc : ∀ i, i < n → w.cell? ⟨b, i, none⟩ = some (.int .i64 (vals.getD i 0))) (hP : ∀ i, i < n → P (vals.getD i 0)) :
    Calls Tryz.prog 20 #[.pointer (some ⟨S, 0, none⟩), .slice (some ⟨b, 0, none⟩) n c] w (PickPost S (k + 1) P w) := by
  have Hc := Lib.hid hc
  have HP := Lib.hid hP
  have HS := Lib.hid h
  clear hc hP h
  go_enter Tryz.func20, Tryz.ntmps20
  go_wp2_with fail
  refine (next_any S k _ _ HS.out hk (by omega) (by omega)).mono ?_
  rintro e w' ⟨r, rfl, r0, r1, hst, hkp⟩
  obtain ⟨r, rfl⟩ := Int.eq_ofNat_of_zero_le r0
  have hr : r < n := by omega
  have c0 := (hkp.cell (p := ⟨b, r, none⟩) hb hS).trans (Hc.out r hr)
  have HP' := Lib.hid (HP.out r hr)
  have HK := Lib.hid hkp
  have HS' := Lib.hid hst
  clear hkp hst
  generalize vals.getD r 0 = x at c0 HP'
  go_wp2_with fail
  go_ret
  exact ⟨x, rfl, HP'.out, HS'.out, HK.out⟩

theorem some_any (S k b n c : Nat) (vals : List (List UInt8)) (P : List UInt8 → Prop) (w : World) (h : StreamOk w S k) (hk : k ≤ 1000000000) (hb : b < w.heap.size) (hS : b ≠ S) (h1 : 1 ≤ n) (h2 : n ≤ 1000) (hc : ∀ i, i < n → w.cell? ⟨b, i, none⟩ = some (.string ⟨(vals.getD i []).toArray⟩)) (hP : ∀ i, i < n → P (vals.getD i [])) :
    Calls Tryz.prog 8 #[.pointer (some ⟨S, 0, none⟩), .slice (some ⟨b, 0, none⟩) n c] w (SomePost S (k + 1) P w) := by
  have Hc := Lib.hid hc
  have HP := Lib.hid hP
  have HS := Lib.hid h
  clear hc hP h
  go_enter Tryz.func8, Tryz.ntmps8
  go_wp2_with fail
  refine (next_any S k _ _ HS.out hk (by omega) (by omega)).mono ?_
  rintro e w' ⟨r, rfl, r0, r1, hst, hkp⟩
  obtain ⟨r, rfl⟩ := Int.eq_ofNat_of_zero_le r0
  have hr : r < n := by omega
  have c0 := (hkp.cell (p := ⟨b, r, none⟩) hb hS).trans (Hc.out r hr)
  have HP' := Lib.hid (HP.out r hr)
  have HK := Lib.hid hkp
  have HS' := Lib.hid hst
  clear hkp hst
  generalize vals.getD r [] = x at c0 HP'
  go_wp2_with fail
  go_ret
  exact ⟨x, rfl, HP'.out, HS'.out, HK.out⟩

/-- Three, four, five values in a new block. -/
theorem cells3 {w : World} {b : Nat} {x0 x1 x2 : Int} (h0 : w.cell? ⟨b, 0, none⟩ = some (.int .i64 x0)) (h1 : w.cell? ⟨b, 1, none⟩ = some (.int .i64 x1)) (h2 : w.cell? ⟨b, 2, none⟩ = some (.int .i64 x2)) : ∀ i, i < 3 → w.cell? ⟨b, i, none⟩ = some (.int .i64 (([x0, x1, x2] : List Int).getD i 0))
  | 0, _ => h0
  | 1, _ => h1
  | 2, _ => h2
theorem cells4 {w : World} {b : Nat} {x0 x1 x2 x3 : Int} (h0 : w.cell? ⟨b, 0, none⟩ = some (.int .i64 x0)) (h1 : w.cell? ⟨b, 1, none⟩ = some (.int .i64 x1)) (h2 : w.cell? ⟨b, 2, none⟩ = some (.int .i64 x2)) (h3 : w.cell? ⟨b, 3, none⟩ = some (.int .i64 x3)) : ∀ i, i < 4 → w.cell? ⟨b, i, none⟩ = some (.int .i64 (([x0, x1, x2, x3] : List Int).getD i 0))
  | 0, _ => h0
  | 1, _ => h1
  | 2, _ => h2
  | 3, _ => h3
theorem cells5 {w : World} {b : Nat} {x0 x1 x2 x3 x4 : Int} (h0 : w.cell? ⟨b, 0, none⟩ = some (.int .i64 x0)) (h1 : w.cell? ⟨b, 1, none⟩ = some (.int .i64 x1)) (h2 : w.cell? ⟨b, 2, none⟩ = some (.int .i64 x2)) (h3 : w.cell? ⟨b, 3, none⟩ = some (.int .i64 x3)) (h4 : w.cell? ⟨b, 4, none⟩ = some (.int .i64 x4)) : ∀ i, i < 5 → w.cell? ⟨b, i, none⟩ = some (.int .i64 (([x0, x1, x2, x3, x4] : List Int).getD i 0))
  | 0, _ => h0
  | 1, _ => h1
  | 2, _ => h2
  | 3, _ => h3
  | 4, _ => h4

/-- Pick of three, four or five numbers that are written out. -/
theorem pick3 (S k b : Nat) (x0 x1 x2 : Int) (P : Int → Prop) (w : World) (h : StreamOk w S k) (hk : k ≤ 1000000000) (hb : b < w.heap.size) (hS : b ≠ S) (h0 : w.cell? ⟨b, 0, none⟩ = some (.int .i64 x0)) (h1 : w.cell? ⟨b, 1, none⟩ = some (.int .i64 x1)) (h2 : w.cell? ⟨b, 2, none⟩ = some (.int .i64 x2)) (p0 : P x0) (p1 : P x1) (p2 : P x2) :
    Calls Tryz.prog 20 #[.pointer (some ⟨S, 0, none⟩), .slice (some ⟨b, 0, none⟩) 3 3] w (PickPost S (k + 1) P w) :=
  pick_any S k b 3 3 [x0, x1, x2] P w h hk hb hS (by omega) (by omega) (cells3 h0 h1 h2) (fun i hi => by match i, hi with | 0, _ => exact p0 | 1, _ => exact p1 | 2, _ => exact p2)
theorem pick4 (S k b : Nat) (x0 x1 x2 x3 : Int) (P : Int → Prop) (w : World) (h : StreamOk w S k) (hk : k ≤ 1000000000) (hb : b < w.heap.size) (hS : b ≠ S) (h0 : w.cell? ⟨b, 0, none⟩ = some (.int .i64 x0)) (h1 : w.cell? ⟨b, 1, none⟩ = some (.int .i64 x1)) (h2 : w.cell? ⟨b, 2, none⟩ = some (.int .i64 x2)) (h3 : w.cell? ⟨b, 3, none⟩ = some (.int .i64 x3)) (p0 : P x0) (p1 : P x1) (p2 : P x2) (p3 : P x3) :
    Calls Tryz.prog 20 #[.pointer (some ⟨S, 0, none⟩), .slice (some ⟨b, 0, none⟩) 4 4] w (PickPost S (k + 1) P w) :=
  pick_any S k b 4 4 [x0, x1, x2, x3] P w h hk hb hS (by omega) (by omega) (cells4 h0 h1 h2 h3) (fun i hi => by match i, hi with | 0, _ => exact p0 | 1, _ => exact p1 | 2, _ => exact p2 | 3, _ => exact p3)
theorem pick5 (S k b : Nat) (x0 x1 x2 x3 x4 : Int) (P : Int → Prop) (w : World) (h : StreamOk w S k) (hk : k ≤ 1000000000) (hb : b < w.heap.size) (hS : b ≠ S) (h0 : w.cell? ⟨b, 0, none⟩ = some (.int .i64 x0)) (h1 : w.cell? ⟨b, 1, none⟩ = some (.int .i64 x1)) (h2 : w.cell? ⟨b, 2, none⟩ = some (.int .i64 x2)) (h3 : w.cell? ⟨b, 3, none⟩ = some (.int .i64 x3)) (h4 : w.cell? ⟨b, 4, none⟩ = some (.int .i64 x4)) (p0 : P x0) (p1 : P x1) (p2 : P x2) (p3 : P x3) (p4 : P x4) :
    Calls Tryz.prog 20 #[.pointer (some ⟨S, 0, none⟩), .slice (some ⟨b, 0, none⟩) 5 5] w (PickPost S (k + 1) P w) :=
  pick_any S k b 5 5 [x0, x1, x2, x3, x4] P w h hk hb hS (by omega) (by omega) (cells5 h0 h1 h2 h3 h4) (fun i hi => by match i, hi with | 0, _ => exact p0 | 1, _ => exact p1 | 2, _ => exact p2 | 3, _ => exact p3 | 4, _ => exact p4)
theorem some3 (S k b : Nat) (x0 x1 x2 : List UInt8) (P : List UInt8 → Prop) (w : World) (h : StreamOk w S k) (hk : k ≤ 1000000000) (hb : b < w.heap.size) (hS : b ≠ S) (h0 : w.cell? ⟨b, 0, none⟩ = some (.string ⟨x0.toArray⟩)) (h1 : w.cell? ⟨b, 1, none⟩ = some (.string ⟨x1.toArray⟩)) (h2 : w.cell? ⟨b, 2, none⟩ = some (.string ⟨x2.toArray⟩)) (p0 : P x0) (p1 : P x1) (p2 : P x2) :
    Calls Tryz.prog 8 #[.pointer (some ⟨S, 0, none⟩), .slice (some ⟨b, 0, none⟩) 3 3] w (SomePost S (k + 1) P w) :=
  some_any S k b 3 3 [x0, x1, x2] P w h hk hb hS (by omega) (by omega) (fun i hi => by match i, hi with | 0, _ => exact h0 | 1, _ => exact h1 | 2, _ => exact h2) (fun i hi => by match i, hi with | 0, _ => exact p0 | 1, _ => exact p1 | 2, _ => exact p2)
theorem some4 (S k b : Nat) (x0 x1 x2 x3 : List UInt8) (P : List UInt8 → Prop) (w : World) (h : StreamOk w S k) (hk : k ≤ 1000000000) (hb : b < w.heap.size) (hS : b ≠ S) (h0 : w.cell? ⟨b, 0, none⟩ = some (.string ⟨x0.toArray⟩)) (h1 : w.cell? ⟨b, 1, none⟩ = some (.string ⟨x1.toArray⟩)) (h2 : w.cell? ⟨b, 2, none⟩ = some (.string ⟨x2.toArray⟩)) (h3 : w.cell? ⟨b, 3, none⟩ = some (.string ⟨x3.toArray⟩)) (p0 : P x0) (p1 : P x1) (p2 : P x2) (p3 : P x3) :
    Calls Tryz.prog 8 #[.pointer (some ⟨S, 0, none⟩), .slice (some ⟨b, 0, none⟩) 4 4] w (SomePost S (k + 1) P w) :=
  some_any S k b 4 4 [x0, x1, x2, x3] P w h hk hb hS (by omega) (by omega) (fun i hi => by match i, hi with | 0, _ => exact h0 | 1, _ => exact h1 | 2, _ => exact h2 | 3, _ => exact h3) (fun i hi => by match i, hi with | 0, _ => exact p0 | 1, _ => exact p1 | 2, _ => exact p2 | 3, _ => exact p3)
end Go.Proofs.YtbimecknmojnoaaGreatDoor
