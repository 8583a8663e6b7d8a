/- What is proved here: lemmas and contracts for the statement, put together out of smaller texts (Stream, Picks, PlanBuild, PlanDraw, EncS, WayLaw, IntRows, StrBytes, WayOwn, PortRows, PortTab, SplitPost, Numbered, RefSmall, DkpNum, TxtBld, NumberK, CarrMath, CarrTurn). No condition beyond those stated. -/
import Derived.Test.YtacekbbndamkmaaGreatDoorDpPkA
import Derived.Lib.OwnBridge
import Derived.Deep.AppendLies
import Derived.Laws.AppendOwn
import Derived.Laws.BytesString
import Derived.Laws.IdiomStrings
import Derived.StillTailTactics
import Derived.Test.YtacekbbndamkmaaGreatDoorShelfHas
import Derived.Test.YtacekbbndamkmaaGreatDoorShelfPort
import Derived.Lib.ItoaLen
import Derived.Deep.MidRow
import Derived.Maps.AppendAt
import Derived.Lib.ConvBytes
import Derived.Test.YtacekbbndamkmaaGreatDoorShelfTxt
import Derived.Test.YtacekbbndamkmaaGreatDoorShelfRep
namespace Go.Proofs.YtacekbbndamkmaaGreatDoor
open Go.RowKit

def belowI (x n : Int) : Int := if n < 1 then 0 else if x.tmod n < 0 then x.tmod n + n else x.tmod n

theorem belowI_range (x n : Int) (h : 1 ≤ n) : 0 ≤ belowI x n ∧ belowI x n ≤ n - 1 := by
  unfold belowI
  rw [if_neg (by omega)]
  have h1 := Int.tmod_lt_of_pos x (show 0 < n by omega)
  have h2 : -n < x.tmod n := Int.lt_tmod_of_pos x (by omega)
  split <;> omega

theorem below_any (x n : Int) (w : World) (h : 1 ≤ n) (hn : n ≤ 9223372036854775807) :
    Calls Tryz.prog 81 #[.int .i64 x, .int .i64 n] w fun e w' => e = .returned (.int .i64 (belowI x n)) ∧ w = w' := by
  have h1 := Int.tmod_lt_of_pos x (show 0 < n by omega)
  have h2 : -n < x.tmod n := Int.lt_tmod_of_pos x (by omega)
  have hlt : ¬ n < 1 := by omega
  by_cases hx : x.tmod n < 0
  · have hb : Hid (belowI x n = x.tmod n + n) := Lib.hid (by unfold belowI; rw [if_neg hlt, if_pos hx])
    go_enter Tryz.func81, Tryz.ntmps81
    go_wp2
    go_ret
    exact ⟨ret_int hb.out.symm, rfl⟩
  · have hb : Hid (belowI x n = x.tmod n) := Lib.hid (by unfold belowI; rw [if_neg hlt, if_neg hx])
    go_enter Tryz.func81, Tryz.ntmps81
    go_wp2
    go_ret
    exact ⟨ret_int hb.out.symm, rfl⟩

theorem stream_set {w w' : World} {S k : Nat} {a : Option Addr} {len cap : Nat} {zs : List Int} {n : Nat} (hn : n ≤ k) (hs : S < w.heap.size)
    (h0 : w.cell? ⟨S, 0, none⟩ = some (.slice a len cap)) (h1 : w.cell? ⟨S, 1, none⟩ = some (.int .i64 n)) (hf : w.frozen? ⟨S, 1, none⟩ = false) (hr : IntRow w S a len cap zs)
    (v : Value) (hv : v = .int .i64 ((n : Int) + 1)) (m : Nat) (hw : w' = (w.setCell ⟨S, 1, none⟩ v).drewN m) : StreamOk w' S (k + 1) ∧ Keeps S w w' := by
  subst hv
  have kp : Keeps S w (w.setCell ⟨S, 1, none⟩ (.int .i64 ((n : Int) + 1))) := (Keeps.refl S w).setCell rfl _
  have kp' : Keeps S w w' := by rw [hw]; exact kp.drewN m
  refine ⟨⟨a, len, cap, zs, n + 1, by omega, Nat.lt_of_lt_of_le hs kp'.size, ?_, ?_, ?_, hr.kept (kp'.below (Nat.le_of_lt hs) (Nat.le_refl _))⟩, kp'⟩
  · rw [hw]; simpa using (World.cell?_setCell_other _ _ _ _ (by simp)).trans h0
  · rw [hw]; simpa using World.cell?_setCell_same _ _ _ h1
  · rw [hw]; simpa using hf

set_option maxHeartbeats 1000000 in
theorem next_any (S k : Nat) (n : Int) (w : World) (h : StreamOk w S k) (hk : k ≤ 1000000000) (h1 : 1 ≤ n) (h2 : n ≤ 9223372036854775807) :
    Calls Tryz.prog 38 #[.pointer (some ⟨S, 0, none⟩), .int .i64 n] w (NextPost S (k + 1) 0 (n - 1) w) := by
  obtain ⟨a, len, cap, zs, m, hm, hs, c0, c1, cf, hr⟩ := h
  have fin := fun (x : Int) (w' : World) (v : Value) (hv : v = .int .i64 ((m : Int) + 1)) (j : Nat) (hw : w' = (w.setCell ⟨S, 1, none⟩ v).drewN j) =>
    show NextPost S (k + 1) 0 (n - 1) w (.returned (.int .i64 (belowI x n))) w' from
    ⟨_, rfl, (belowI_range x n h1).1, (belowI_range x n h1).2, stream_set hm hs c0 c1 cf hr v hv j hw⟩
  have Fin := Lib.hid fin
  clear fin
  rcases hr with hl | ⟨b, off, ha, hb, hlc, hcm, hz, hc⟩
  · subst hl
    go_enter Tryz.func38, Tryz.ntmps38
    go_wp2_with (go_at_call 81; refine (below_any _ _ _ h1 h2).mono ?_; rintro e w' ⟨rfl, rfl⟩)
    go_ret
    exact Fin.out _ _ _ rfl 0 rfl
  · subst ha
    unfold maxLen at hcm
    by_cases hl : len = 0
    · subst hl
      go_enter Tryz.func38, Tryz.ntmps38
      go_wp2_with (go_at_call 81; refine (below_any _ _ _ h1 h2).mono ?_; rintro e w' ⟨rfl, rfl⟩)
      go_ret
      exact Fin.out _ _ _ rfl 0 rfl
    · have hl0 : ((len : Int) == 0) = false := by simp; omega
      have hmod : m % len < len := Nat.mod_lt _ (by omega)
      have hcell := hc (m % len) hmod
      have hbm : b ≠ S := by omega
      clear hc
      go_enter Tryz.func38, Tryz.ntmps38
      go_wp2_with fail
      go_quiet (fail)
      go_wp2_with fail
      go_quiet (fail)
      go_wp2_with fail
      refine (below_any _ _ _ (by omega) (by omega)).mono ?_
      rintro e w' ⟨rfl, rfl⟩
      go_wp2_with fail
      refine (below_any _ _ _ h1 h2).mono ?_
      rintro e w' ⟨rfl, rfl⟩
      go_wp2_with fail
      go_ret
      exact Fin.out _ _ _ rfl _ rfl

/-- A statement's end: nothing that was there before has turned. -/
theorem law_end {w w9 : World} {o : Obj} (hk : Keeps w.heap.size (w.alloc o) w9) : Below w.heap.size w w9 :=
  ((Below.refl _ w).alloc (Nat.le_refl _) o).trans (hk.below (B := w.heap.size) (by simp) (Nat.le_refl _))

/-- The slice that came in. -/
def ArgRow (w : World) (a : Option Addr) (len cap : Nat) (zs : List Int) : Prop :=
  len = 0 ∨ ∃ b off, a = some ⟨b, off, none⟩ ∧ b < w.heap.size ∧ len ≤ cap ∧ cap ≤ maxLen ∧ len ≤ zs.length ∧ ∀ i, i < len → w.cell? ⟨b, off + i, none⟩ = some (.int .i64 (zs.getD i 0))

theorem argRow_of {w : World} {x : Addr} {len cap : Nat} {zs : List Int} (h1 : len ≤ cap) (h2 : cap ≤ maxLen) (h3 : zs.length = cap) (hc : ∀ i, i < zs.length → w.cell? (x.add i) = some (.int .i64 (zs.getD i 0))) : ArgRow w (some x) len cap zs := by
  by_cases h0 : len = 0
  · exact Or.inl h0
  · obtain ⟨b, off, spot⟩ := x
    have hc0 := hc 0 (by omega)
    have hspot : spot = none := by simpa [Addr.add] using World.cell?_spot hc0
    subst hspot
    refine Or.inr ⟨b, off, rfl, ?_, h1, h2, by omega, fun i hi => ?_⟩
    · rcases Nat.lt_or_ge b w.heap.size with h | h
      · exact h
      · simp [World.cell?, Addr.add, Array.getElem?_eq_none h] at hc0
    · have := hc i (by omega)
      have hp : (⟨b, off, none⟩ : Addr).add i = ⟨b, off + i, none⟩ := by unfold Addr.add; split <;> simp_all
      rwa [hp] at this

/-- The stream that a statement begins with. -/
theorem stream_start {w : World} {a : Option Addr} {len cap : Nat} {zs : List Int} (h : len = 0 ∨ ∃ b off, a = some ⟨b, off, none⟩ ∧ b < w.heap.size ∧ len ≤ cap ∧ cap ≤ maxLen ∧ len ≤ zs.length ∧ ∀ i, i < len → w.cell? ⟨b, off + i, none⟩ = some (.int .i64 (zs.getD i 0))) :
    StreamOk (w.alloc (.cells #[.slice a len cap, .int .i64 0] 25)) w.heap.size 0 := by
  refine ⟨a, len, cap, zs, 0, Nat.le_refl _, by simp, by simp, by simp, by simp, ?_⟩
  refine h.imp id ?_
  rintro ⟨b, off, ha, hb, h1, h2, h3, hc⟩
  refine ⟨b, off, ha, hb, h1, h2, h3, fun i hi => ?_⟩
  rw [World.cell?_alloc_lt _ _ _ (by show b < _; omega)]
  exact hc i hi

theorem range_any (S k : Nat) (lo hi : Int) (w : World) (h : StreamOk w S k) (hk : k ≤ 1000000000) (h1 : lo ≤ hi) (h2 : -4611686018427387904 ≤ lo) (h3 : hi ≤ 4611686018427387000) :
    Calls Tryz.prog 82 #[.pointer (some ⟨S, 0, none⟩), .int .i64 lo, .int .i64 hi] w (NextPost S (k + 1) lo hi w) := by
  have hlt : ¬ hi < lo := by omega
  go_enter Tryz.func82, Tryz.ntmps82
  go_wp2_with fail
  refine (next_any S k _ _ h hk (by omega) (by omega)).mono ?_
  rintro e w' ⟨r, rfl, r0, r1, hst, hkp⟩
  go_wp2_with fail
  go_ret
  exact ⟨lo + r, rfl, by omega, by omega, hst, hkp⟩

def FlipPost (S k : Nat) (w : World) (e : Ending) (w' : World) : Prop :=
  ∃ r : Bool, e = .returned (.bool r) ∧ StreamOk w' S k ∧ Keeps S w w'

theorem flip_any (S k : Nat) (n : Int) (w : World) (h : StreamOk w S k) (hk : k ≤ 1000000000) (h1 : 1 ≤ n) (h2 : n ≤ 9223372036854775807) :
    Calls Tryz.prog 37 #[.pointer (some ⟨S, 0, none⟩), .int .i64 n] w (FlipPost S (k + 1) w) := by
  go_enter Tryz.func37, Tryz.ntmps37
  go_wp2_with fail
  refine (next_any S k _ _ h hk h1 h2).mono ?_
  rintro e w' ⟨r, rfl, r0, r1, hst, hkp⟩
  go_wp2_with fail
  go_ret
  exact ⟨_, rfl, hst, hkp⟩
end Go.Proofs.YtacekbbndamkmaaGreatDoor

namespace Go.Proofs.YtacekbbndamkmaaGreatDoor
open Go.RowKit
set_option linter.unusedVariables false

/-- One of some values is handed out. -/
def PickPost (S k : Nat) (P : Int → Prop) (w : World) (e : Ending) (w' : World) : Prop :=
  ∃ r : Int, e = .returned (.int .i64 r) ∧ P r ∧ StreamOk w' S k ∧ Keeps S w w'
def SomePost (S k : Nat) (P : List UInt8 → Prop) (w : World) (e : Ending) (w' : World) : Prop :=
  ∃ r : List UInt8, e = .returned (.string ⟨r.toArray⟩) ∧ P r ∧ StreamOk w' S k ∧ Keeps S w w'

theorem pick_any (S k b n c : Nat) (vals : List Int) (P : Int → Prop) (w : World) (h : StreamOk w S k) (hk : k ≤ 1000000000) (hb : b < w.heap.size) (hS : b ≠ S) (h1 : 1 ≤ n) (h2 : n ≤ 1000) (hc : ∀ i, i < n → w.cell? ⟨b, i, none⟩ = some (.int .i64 (vals.getD i 0))) (hP : ∀ i, i < n → P (vals.getD i 0)) :
    Calls Tryz.prog 6 #[.pointer (some ⟨S, 0, none⟩), .slice (some ⟨b, 0, none⟩) n c] w (PickPost S (k + 1) P w) := by
  have Hc := Lib.hid hc
  have HP := Lib.hid hP
  have HS := Lib.hid h
  clear hc hP h
  go_enter Tryz.func6, Tryz.ntmps6
  go_wp2_with fail
  refine (next_any S k _ _ HS.out hk (by omega) (by omega)).mono ?_
  rintro e w' ⟨r, rfl, r0, r1, hst, hkp⟩
  obtain ⟨r, rfl⟩ := Int.eq_ofNat_of_zero_le r0
  have hr : r < n := by omega
  have c0 := (hkp.cell (p := ⟨b, r, none⟩) hb hS).trans (Hc.out r hr)
  have HP' := Lib.hid (HP.out r hr)
  have HK := Lib.hid hkp
  have HS' := Lib.hid hst
  clear hkp hst
  generalize vals.getD r 0 = x at c0 HP'
  go_wp2_with fail
  go_ret
  exact ⟨x, rfl, HP'.out, HS'.out, HK.out⟩

theorem some_any (S k b n c : Nat) (vals : List (List UInt8)) (P : List UInt8 → Prop) (w : World) (h : StreamOk w S k) (hk : k ≤ 1000000000) (hb : b < w.heap.size) (hS : b ≠ S) (h1 : 1 ≤ n) (h2 : n ≤ 1000) (hc : ∀ i, i < n → w.cell? ⟨b, i, none⟩ = some (.string ⟨(vals.getD i []).toArray⟩)) (hP : ∀ i, i < n → P (vals.getD i [])) :
    Calls Tryz.prog 24 #[.pointer (some ⟨S, 0, none⟩), .slice (some ⟨b, 0, none⟩) n c] w (SomePost S (k + 1) P w) := by
  have Hc := Lib.hid hc
  have HP := Lib.hid hP
  have HS := Lib.hid h
  clear hc hP h
  go_enter Tryz.func24, Tryz.ntmps24
  go_wp2_with fail
  refine (next_any S k _ _ HS.out hk (by omega) (by omega)).mono ?_
  rintro e w' ⟨r, rfl, r0, r1, hst, hkp⟩
  obtain ⟨r, rfl⟩ := Int.eq_ofNat_of_zero_le r0
  have hr : r < n := by omega
  have c0 := (hkp.cell (p := ⟨b, r, none⟩) hb hS).trans (Hc.out r hr)
  have HP' := Lib.hid (HP.out r hr)
  have HK := Lib.hid hkp
  have HS' := Lib.hid hst
  clear hkp hst
  generalize vals.getD r [] = x at c0 HP'
  go_wp2_with fail
  go_ret
  exact ⟨x, rfl, HP'.out, HS'.out, HK.out⟩

/-- Three, four, five values in a new block. -/
theorem cells3 {w : World} {b : Nat} {x0 x1 x2 : Int} (h0 : w.cell? ⟨b, 0, none⟩ = some (.int .i64 x0)) (h1 : w.cell? ⟨b, 1, none⟩ = some (.int .i64 x1)) (h2 : w.cell? ⟨b, 2, none⟩ = some (.int .i64 x2)) : ∀ i, i < 3 → w.cell? ⟨b, i, none⟩ = some (.int .i64 (([x0, x1, x2] : List Int).getD i 0))
  | 0, _ => h0
  | 1, _ => h1
  | 2, _ => h2
theorem cells4 {w : World} {b : Nat} {x0 x1 x2 x3 : Int} (h0 : w.cell? ⟨b, 0, none⟩ = some (.int .i64 x0)) (h1 : w.cell? ⟨b, 1, none⟩ = some (.int .i64 x1)) (h2 : w.cell? ⟨b, 2, none⟩ = some (.int .i64 x2)) (h3 : w.cell? ⟨b, 3, none⟩ = some (.int .i64 x3)) : ∀ i, i < 4 → w.cell? ⟨b, i, none⟩ = some (.int .i64 (([x0, x1, x2, x3] : List Int).getD i 0))
  | 0, _ => h0
  | 1, _ => h1
  | 2, _ => h2
  | 3, _ => h3
theorem cells5 {w : World} {b : Nat} {x0 x1 x2 x3 x4 : Int} (h0 : w.cell? ⟨b, 0, none⟩ = some (.int .i64 x0)) (h1 : w.cell? ⟨b, 1, none⟩ = some (.int .i64 x1)) (h2 : w.cell? ⟨b, 2, none⟩ = some (.int .i64 x2)) (h3 : w.cell? ⟨b, 3, none⟩ = some (.int .i64 x3)) (h4 : w.cell? ⟨b, 4, none⟩ = some (.int .i64 x4)) : ∀ i, i < 5 → w.cell? ⟨b, i, none⟩ = some (.int .i64 (([x0, x1, x2, x3, x4] : List Int).getD i 0))
  | 0, _ => h0
  | 1, _ => h1
  | 2, _ => h2
  | 3, _ => h3
  | 4, _ => h4

/-- Pick of three, four or five numbers that are written out. -/
theorem pick3 (S k b : Nat) (x0 x1 x2 : Int) (P : Int → Prop) (w : World) (h : StreamOk w S k) (hk : k ≤ 1000000000) (hb : b < w.heap.size) (hS : b ≠ S) (h0 : w.cell? ⟨b, 0, none⟩ = some (.int .i64 x0)) (h1 : w.cell? ⟨b, 1, none⟩ = some (.int .i64 x1)) (h2 : w.cell? ⟨b, 2, none⟩ = some (.int .i64 x2)) (p0 : P x0) (p1 : P x1) (p2 : P x2) :
    Calls Tryz.prog 6 #[.pointer (some ⟨S, 0, none⟩), .slice (some ⟨b, 0, none⟩) 3 3] w (PickPost S (k + 1) P w) :=
  pick_any S k b 3 3 [x0, x1, x2] P w h hk hb hS (by omega) (by omega) (cells3 h0 h1 h2) (fun i hi => by match i, hi with | 0, _ => exact p0 | 1, _ => exact p1 | 2, _ => exact p2)
theorem pick4 (S k b : Nat) (x0 x1 x2 x3 : Int) (P : Int → Prop) (w : World) (h : StreamOk w S k) (hk : k ≤ 1000000000) (hb : b < w.heap.size) (hS : b ≠ S) (h0 : w.cell? ⟨b, 0, none⟩ = some (.int .i64 x0)) (h1 : w.cell? ⟨b, 1, none⟩ = some (.int .i64 x1)) (h2 : w.cell? ⟨b, 2, none⟩ = some (.int .i64 x2)) (h3 : w.cell? ⟨b, 3, none⟩ = some (.int .i64 x3)) (p0 : P x0) (p1 : P x1) (p2 : P x2) (p3 : P x3) :
    Calls Tryz.prog 6 #[.pointer (some ⟨S, 0, none⟩), .slice (some ⟨b, 0, none⟩) 4 4] w (PickPost S (k + 1) P w) :=
  pick_any S k b 4 4 [x0, x1, x2, x3] P w h hk hb hS (by omega) (by omega) (cells4 h0 h1 h2 h3) (fun i hi => by match i, hi with | 0, _ => exact p0 | 1, _ => exact p1 | 2, _ => exact p2 | 3, _ => exact p3)
theorem pick5 (S k b : Nat) (x0 x1 x2 x3 x4 : Int) (P : Int → Prop) (w : World) (h : StreamOk w S k) (hk : k ≤ 1000000000) (hb : b < w.heap.size) (hS : b ≠ S) (h0 : w.cell? ⟨b, 0, none⟩ = some (.int .i64 x0)) (h1 : w.cell? ⟨b, 1, none⟩ = some (.int .i64 x1)) (h2 : w.cell? ⟨b, 2, none⟩ = some (.int .i64 x2)) (h3 : w.cell? ⟨b, 3, none⟩ = some (.int .i64 x3)) (h4 : w.cell? ⟨b, 4, none⟩ = some (.int .i64 x4)) (p0 : P x0) (p1 : P x1) (p2 : P x2) (p3 : P x3) (p4 : P x4) :
    Calls Tryz.prog 6 #[.pointer (some ⟨S, 0, none⟩), .slice (some ⟨b, 0, none⟩) 5 5] w (PickPost S (k + 1) P w) :=
  pick_any S k b 5 5 [x0, x1, x2, x3, x4] P w h hk hb hS (by omega) (by omega) (cells5 h0 h1 h2 h3 h4) (fun i hi => by match i, hi with | 0, _ => exact p0 | 1, _ => exact p1 | 2, _ => exact p2 | 3, _ => exact p3 | 4, _ => exact p4)
theorem some3 (S k b : Nat) (x0 x1 x2 : List UInt8) (P : List UInt8 → Prop) (w : World) (h : StreamOk w S k) (hk : k ≤ 1000000000) (hb : b < w.heap.size) (hS : b ≠ S) (h0 : w.cell? ⟨b, 0, none⟩ = some (.string ⟨x0.toArray⟩)) (h1 : w.cell? ⟨b, 1, none⟩ = some (.string ⟨x1.toArray⟩)) (h2 : w.cell? ⟨b, 2, none⟩ = some (.string ⟨x2.toArray⟩)) (p0 : P x0) (p1 : P x1) (p2 : P x2) :
    Calls Tryz.prog 24 #[.pointer (some ⟨S, 0, none⟩), .slice (some ⟨b, 0, none⟩) 3 3] w (SomePost S (k + 1) P w) :=
  some_any S k b 3 3 [x0, x1, x2] P w h hk hb hS (by omega) (by omega) (fun i hi => by match i, hi with | 0, _ => exact h0 | 1, _ => exact h1 | 2, _ => exact h2) (fun i hi => by match i, hi with | 0, _ => exact p0 | 1, _ => exact p1 | 2, _ => exact p2)
theorem some4 (S k b : Nat) (x0 x1 x2 x3 : List UInt8) (P : List UInt8 → Prop) (w : World) (h : StreamOk w S k) (hk : k ≤ 1000000000) (hb : b < w.heap.size) (hS : b ≠ S) (h0 : w.cell? ⟨b, 0, none⟩ = some (.string ⟨x0.toArray⟩)) (h1 : w.cell? ⟨b, 1, none⟩ = some (.string ⟨x1.toArray⟩)) (h2 : w.cell? ⟨b, 2, none⟩ = some (.string ⟨x2.toArray⟩)) (h3 : w.cell? ⟨b, 3, none⟩ = some (.string ⟨x3.toArray⟩)) (p0 : P x0) (p1 : P x1) (p2 : P x2) (p3 : P x3) :
    Calls Tryz.prog 24 #[.pointer (some ⟨S, 0, none⟩), .slice (some ⟨b, 0, none⟩) 4 4] w (SomePost S (k + 1) P w) :=
  some_any S k b 4 4 [x0, x1, x2, x3] P w h hk hb hS (by omega) (by omega) (fun i hi => by match i, hi with | 0, _ => exact h0 | 1, _ => exact h1 | 2, _ => exact h2 | 3, _ => exact h3) (fun i hi => by match i, hi with | 0, _ => exact p0 | 1, _ => exact p1 | 2, _ => exact p2 | 3, _ => exact p3)
end Go.Proofs.YtacekbbndamkmaaGreatDoor

set_option linter.unusedVariables false
set_option linter.unusedSimpArgs false
namespace Go.Proofs.YtacekbbndamkmaaGreatDoor
open Go.RowKit

theorem wpList_val {P : Program} {ops : Array Oper} {rest : List Oper} {o : Oper} {a : Act} {w w' : World} {v : Value} {Q : Exit → Act → World → Prop} (hg : o.guard = none) (h : (execOp a.eval o).run P w = .ok (.value v) w') (hr : wpList P ops Q rest (a.put o.dst v) w') : wpList P ops Q (o :: rest) a w :=
  wpList_plain hg fun _ hK => by unfold Oper.wp; rw [h]; exact hK _ _ hr

theorem bs_str4 (e : Operand → Value) (he : ∀ v, e (.const v) = v) (o : Oper) (w : World) (b0 b1 b2 b3 : ByteArray) (ho : o.op = .buildSlice 38 4 #[(0, .const (.string b0)), (1, .const (.string b1)), (2, .const (.string b2)), (3, .const (.string b3))]) :
   (execOp e o).run Tryz.prog w = .ok (.value (.slice (some ⟨w.heap.size, 0, none⟩) 4 4)) (w.alloc (.cells #[.string b0, .string b1, .string b2, .string b3] 9)) := by
  unfold execOp
  rw [ho]
  simp only [List.map_toArray, List.map_cons, List.map_nil, he]
  kernel_rfl
theorem bs_str6 (e : Operand → Value) (he : ∀ v, e (.const v) = v) (o : Oper) (w : World) (b0 b1 b2 b3 b4 b5 : ByteArray) (ho : o.op = .buildSlice 38 6 #[(0, .const (.string b0)), (1, .const (.string b1)), (2, .const (.string b2)), (3, .const (.string b3)), (4, .const (.string b4)), (5, .const (.string b5))]) :
   (execOp e o).run Tryz.prog w = .ok (.value (.slice (some ⟨w.heap.size, 0, none⟩) 6 6)) (w.alloc (.cells #[.string b0, .string b1, .string b2, .string b3, .string b4, .string b5] 9)) := by
  unfold execOp
  rw [ho]
  simp only [List.map_toArray, List.map_cons, List.map_nil, he]
  kernel_rfl
theorem bs_str7 (e : Operand → Value) (he : ∀ v, e (.const v) = v) (o : Oper) (w : World) (b0 b1 b2 b3 b4 b5 b6 : ByteArray) (ho : o.op = .buildSlice 38 7 #[(0, .const (.string b0)), (1, .const (.string b1)), (2, .const (.string b2)), (3, .const (.string b3)), (4, .const (.string b4)), (5, .const (.string b5)), (6, .const (.string b6))]) :
   (execOp e o).run Tryz.prog w = .ok (.value (.slice (some ⟨w.heap.size, 0, none⟩) 7 7)) (w.alloc (.cells #[.string b0, .string b1, .string b2, .string b3, .string b4, .string b5, .string b6] 9)) := by
  unfold execOp
  rw [ho]
  simp only [List.map_toArray, List.map_cons, List.map_nil, he]
  kernel_rfl
theorem bs_str11 (e : Operand → Value) (he : ∀ v, e (.const v) = v) (o : Oper) (w : World) (b0 b1 b2 b3 b4 b5 b6 b7 b8 b9 b10 : ByteArray) (ho : o.op = .buildSlice 38 11 #[(0, .const (.string b0)), (1, .const (.string b1)), (2, .const (.string b2)), (3, .const (.string b3)), (4, .const (.string b4)), (5, .const (.string b5)), (6, .const (.string b6)), (7, .const (.string b7)), (8, .const (.string b8)), (9, .const (.string b9)), (10, .const (.string b10))]) :
   (execOp e o).run Tryz.prog w = .ok (.value (.slice (some ⟨w.heap.size, 0, none⟩) 11 11)) (w.alloc (.cells #[.string b0, .string b1, .string b2, .string b3, .string b4, .string b5, .string b6, .string b7, .string b8, .string b9, .string b10] 9)) := by
  unfold execOp
  rw [ho]
  simp only [List.map_toArray, List.map_cons, List.map_nil, he]
  kernel_rfl
end Go.Proofs.YtacekbbndamkmaaGreatDoor

set_option linter.unusedVariables false
set_option linter.unusedSimpArgs false
namespace Go.Proofs.YtacekbbndamkmaaGreatDoor
open Go.RowKit

theorem range_gen (S k : Nat) (lo hi : Int) (w : World) (h : StreamOk w S k) (hk : k ≤ 1000000000) (h2 : -4611686018427387904 ≤ lo) (h3 : hi ≤ 4611686018427387000) :
    Calls Tryz.prog 82 #[.pointer (some ⟨S, 0, none⟩), .int .i64 lo, .int .i64 hi] w (PickPost S (k + 1) (fun r => lo ≤ r ∧ (r ≤ lo ∨ r ≤ hi)) w) := by
  by_cases hlt : hi < lo
  · have HS := Lib.hid (h.mono (Nat.le_succ _))
    clear h
    go_enter Tryz.func82, Tryz.ntmps82
    go_wp2_with fail
    go_ret
    exact ⟨lo, rfl, ⟨Int.le_refl _, Or.inl (Int.le_refl _)⟩, HS.out, Keeps.refl _ _⟩
  · refine (range_any S k lo hi w h hk (by omega) h2 h3).mono ?_
    rintro e w' ⟨r, rfl, r0, r1, hst, hkp⟩
    exact ⟨r, rfl, ⟨r0, Or.inr r1⟩, hst, hkp⟩

set_option maxRecDepth 100000 in
theorem odd_any (S k : Nat) (lo hi : Int) (w : World) (h : StreamOk w S k) (hk : k ≤ 100000000) (h0 : 0 ≤ lo) (h1 : lo ≤ hi) (h2 : hi ≤ 400000000000) :
    Calls Tryz.prog 39 #[.pointer (some ⟨S, 0, none⟩), .int .i64 lo, .int .i64 hi] w (PickPost S (k + 2) (fun r => -1099511627776 ≤ r ∧ r ≤ 1099511627776) w) := by
  have HS := Lib.hid h
  have hlt := h.lt
  clear h
  go_enter Tryz.func39, Tryz.ntmps39
  go_wp2_with fail
  refine (flip_any S k 12 _ HS.out (by omega) (by decide) (by decide)).mono ?_
  rintro e w1 ⟨r, rfl, hst, hkp⟩
  have HS1 := Lib.hid hst
  have HK1 := Lib.hid hkp
  have hl1 := hst.lt
  clear hst hkp
  cases r
  · go_wp2_with fail
    refine (range_any S (k + 1) lo hi _ HS1.out (by omega) h1 (by omega) (by omega)).mono ?_
    rintro e w2 ⟨r, rfl, r0, r1, hst2, hkp2⟩
    have HK2 := Lib.hid (HK1.out.trans hkp2)
    have HS2 := Lib.hid hst2
    clear hst2 hkp2
    go_wp2_with fail
    go_ret
    exact ⟨r, rfl, ⟨by omega, by omega⟩, HS2.out, HK2.out⟩
  · go_wp2_with fail
    refine (pick_any S (k + 1) w1.heap.size 6 6 [lo - 1, hi + 1, lo, hi, -1099511627776, 1099511627776] (fun r => -1099511627776 ≤ r ∧ r ≤ 1099511627776) _ (HS1.out.below (ext_alloc (Below.refl _ _))) (by omega) (by simp) (by omega) (by omega) (by omega) (fun i h9 => by match i, h9 with | 0, _ | 1, _ | 2, _ | 3, _ | 4, _ | 5, _ => go_simp) (fun i h9 => by match i, h9 with | 0, _ => exact ⟨by show _ ≤ lo - 1; omega, by show lo - 1 ≤ _; omega⟩ | 1, _ => exact ⟨by show _ ≤ hi + 1; omega, by show hi + 1 ≤ _; omega⟩ | 2, _ => exact ⟨by show _ ≤ lo; omega, by show lo ≤ _; omega⟩ | 3, _ => exact ⟨by show _ ≤ hi; omega, by show hi ≤ _; omega⟩ | 4, _ => exact ⟨by show (-1099511627776 : Int) ≤ -1099511627776; decide, by show (-1099511627776 : Int) ≤ 1099511627776; decide⟩ | 5, _ => exact ⟨by show (-1099511627776 : Int) ≤ 1099511627776; decide, by show (1099511627776 : Int) ≤ 1099511627776; decide⟩)).mono ?_
    rintro e w2 ⟨r, rfl, hr, hst2, hkp2⟩
    have HK2 := Lib.hid ((HK1.out.alloc _).trans hkp2)
    have HS2 := Lib.hid hst2
    have HR := Lib.hid hr
    clear hst2 hkp2 hr
    go_wp2_with fail
    go_ret
    exact ⟨r, rfl, HR.out, HS2.out, HK2.out⟩

/-! ### Plans in memory that may be written -/
/-- Country i of a plan in block P, with its areas in a block of their own. -/
structure CtryAt (S P : Nat) (base : Nat) (w : World) (i : Nat) (c : Ctry) (b : Nat) : Prop where
  cells : ∀ j, j < 4 → w.cell? ⟨P, i * 4 + j, none⟩ = c.cells[j]?
  fine : CtryFine w c
  some : 1 ≤ c.an
  at_ : c.aa = Option.some ⟨b, 0, none⟩
  off : b ≠ S
  offP : b ≠ P
  lt : b < w.heap.size
  new : base ≤ b
  fro : ∀ j, w.frozen? ⟨b, j, none⟩ = false
structure PlanAt (S P : Nat) (base : Nat) (w : World) (l : List Ctry) (bs : List Nat) : Prop where
  len : l.length = 3
  each : ∀ i, i < 3 → CtryAt S P base w i (l.getD i noCtry) (bs.getD i 0)
  offS : P ≠ S
  lt : P < w.heap.size
  new : base ≤ P
  fro : ∀ j, w.frozen? ⟨P, j, none⟩ = false

def areaCells (l : List Area) : List Value := l.flatMap Area.cells
/-- A plan that a stream has handed out. -/
def PlanPost (S k : Nat) (w : World) (e : Ending) (w' : World) : Prop :=
  ∃ (P : Nat) (l : List Ctry), e = .returned (.slice (some ⟨P, 0, none⟩) 3 3) ∧ (∀ w9, Keeps S w' w9 → CtryRow w9 (some ⟨P, 0, none⟩) 3 l) ∧ (∀ i, i < l.length → 1 ≤ (l.getD i noCtry).an) ∧ StreamOk w' S k ∧ Keeps S w w'

theorem AreaRow.keeps {S : Nat} {w w' : World} {b n : Nat} {l : List Area} (h : AreaRow w (some ⟨b, 0, none⟩) n l) (hb : b ≠ S) (hk : Keeps S w w') : AreaRow w' (some ⟨b, 0, none⟩) n l := by
  refine ⟨h.len, h.row.imp id ?_⟩
  rintro ⟨b9, off, ha, hl, hc⟩
  injection ha with ha
  injection ha with e1 e2
  subst e1 e2
  exact ⟨b, 0, rfl, Nat.lt_of_lt_of_le hl hk.size, fun i hi j hj => (hk.cell (p := ⟨b, 0 + i * 3 + j, none⟩) hl hb).trans (hc i hi j hj)⟩
theorem CtryAt.keeps {S P base : Nat} {w w' : World} {i : Nat} {c : Ctry} {b : Nat} (h : CtryAt S P base w i c b) (hP : P < w.heap.size) (hS : P ≠ S) (hk : Keeps S w w') : CtryAt S P base w' i c b :=
  ⟨fun j hj => (hk.cell (p := ⟨P, i * 4 + j, none⟩) hP hS).trans (h.cells j hj), ⟨h.fine.code, h.fine.abroad, h.fine.trunk, h.fine.many, by have := h.fine.row; rw [h.at_] at this ⊢; exact this.keeps h.off hk, h.fine.each⟩, h.some, h.at_, h.off, h.offP, Nat.lt_of_lt_of_le h.lt hk.size, h.new, fun j => (hk.frozen (p := ⟨b, j, none⟩) h.lt h.off).trans (h.fro j)⟩
theorem PlanAt.keeps {S P base : Nat} {w w' : World} {l : List Ctry} {bs : List Nat} (h : PlanAt S P base w l bs) (hk : Keeps S w w') : PlanAt S P base w' l bs :=
  ⟨h.len, fun i hi => (h.each i hi).keeps h.lt h.offS hk, h.offS, Nat.lt_of_lt_of_le h.lt hk.size, h.new, fun j => (hk.frozen (p := ⟨P, j, none⟩) h.lt h.offS).trans (h.fro j)⟩
theorem PlanAt.row {S P base : Nat} {w : World} {l : List Ctry} {bs : List Nat} (h : PlanAt S P base w l bs) : CtryRow w (some ⟨P, 0, none⟩) 3 l :=
  ⟨h.len.symm, by omega, Or.inr ⟨P, 0, rfl, h.lt, fun i hi j hj => by rw [Nat.zero_add]; exact (h.each i hi).cells j hj⟩, fun i hi => (h.each i (by rw [h.len] at hi; exact hi)).fine⟩
theorem PlanAt.post {S P k : Nat} {w w' : World} {l : List Ctry} {bs : List Nat} {base : Nat} (h : PlanAt S P base w' l bs) (hs : StreamOk w' S k) (hk : Keeps S w w') : PlanPost S k w (.returned (.slice (some ⟨P, 0, none⟩) 3 3)) w' :=
  ⟨P, l, rfl, fun w9 h9 => (h.keeps h9).row, fun i hi => (h.each i (by rw [h.len] at hi; exact hi)).some, hs, hk⟩

/-- One area, written out. -/
def ar (p : List UInt8) (lo hi : Int) : Area := ⟨p, lo, hi⟩
theorem area_row2 {w : World} {b : Nat} {x y : Area} (hb : b < w.heap.size) (h : ∀ j v, ((x.cells ++ y.cells) : List Value)[j]? = some v → w.cell? ⟨b, j, none⟩ = some v) : AreaRow w (some ⟨b, 0, none⟩) 2 [x, y] := by
  refine ⟨rfl, Or.inr ⟨b, 0, rfl, hb, fun i hi j hj => ?_⟩⟩
  match i, hi, j, hj with
  | 0, _, 0, _ => exact h 0 _ rfl
  | 0, _, 1, _ => exact h 1 _ rfl
  | 0, _, 2, _ => exact h 2 _ rfl
  | 1, _, 0, _ => exact h 3 _ rfl
  | 1, _, 1, _ => exact h 4 _ rfl
  | 1, _, 2, _ => exact h 5 _ rfl
theorem area_row3 {w : World} {b : Nat} {x y z : Area} (hb : b < w.heap.size) (h : ∀ j v, ((x.cells ++ y.cells ++ z.cells) : List Value)[j]? = some v → w.cell? ⟨b, j, none⟩ = some v) : AreaRow w (some ⟨b, 0, none⟩) 3 [x, y, z] := by
  refine ⟨rfl, Or.inr ⟨b, 0, rfl, hb, fun i hi j hj => ?_⟩⟩
  match i, hi, j, hj with
  | 0, _, 0, _ => exact h 0 _ rfl
  | 0, _, 1, _ => exact h 1 _ rfl
  | 0, _, 2, _ => exact h 2 _ rfl
  | 1, _, 0, _ => exact h 3 _ rfl
  | 1, _, 1, _ => exact h 4 _ rfl
  | 1, _, 2, _ => exact h 5 _ rfl
  | 2, _, 0, _ => exact h 6 _ rfl
  | 2, _, 1, _ => exact h 7 _ rfl
  | 2, _, 2, _ => exact h 8 _ rfl

theorem heap_new (w : World) (o : Obj) : (w.alloc o).heap[w.heap.size]? = some o := by unfold World.alloc; simp
theorem block_cell {w : World} {b : Nat} {cs : Array Value} {t : TypeId} (h : w.heap[b]? = some (.cells cs t)) (j : Nat) : w.cell? ⟨b, j, none⟩ = cs[j]? := by simp [World.cell?, h]
theorem block_fro {w : World} {b : Nat} {cs : Array Value} {t : TypeId} (h : w.heap[b]? = some (.cells cs t)) (j : Nat) : w.frozen? ⟨b, j, none⟩ = false := by simp [World.frozen?, h]

end Go.Proofs.YtacekbbndamkmaaGreatDoor

set_option linter.unusedVariables false
set_option linter.unusedSimpArgs false
namespace Go.Proofs.YtacekbbndamkmaaGreatDoor
open Go.RowKit

def encS (x : List UInt8) : Value := .string ⟨x.toArray⟩
end Go.Proofs.YtacekbbndamkmaaGreatDoor

set_option linter.unusedVariables false
set_option linter.unusedSimpArgs false
namespace Go.Proofs.YtacekbbndamkmaaGreatDoor
open Go.RowKit

/-- A country of a plan, with an area of a home in it. -/
structure HomeIn (l : List Ctry) (c : Ctry) (area : List UInt8) : Prop where
  here : ∃ k, k < l.length ∧ l.getD k noCtry = c
  area : area = [] ∨ ∃ z, z < c.areas.length ∧ (c.areas.getD z noArea).pre = area
theorem homeIn_of {l : List Ctry} {code area : List UInt8} {c : Ctry} (h : homeC l code area = some c) : HomeIn l c area := by
  unfold homeC at h
  have hp := List.find?_some h
  obtain ⟨k, hk, hkc⟩ := List.getElem_of_mem (List.mem_of_find?_eq_some h)
  simp only [Bool.and_eq_true, Bool.or_eq_true, beq_iff_eq, List.any_eq_true] at hp
  refine ⟨⟨k, hk, by simpa [hk] using hkc⟩, hp.2.imp id ?_⟩
  rintro ⟨a, ha, rfl⟩
  obtain ⟨z, hz, rfl⟩ := List.getElem_of_mem ha
  exact ⟨z, hz, by simp [hz]⟩

def triesL (l : List Ctry) (c : Ctry) (area n : List UInt8) : List (List UInt8) :=
  (c.abroad ++ n.drop 1) :: (if (splitP l n).code = c.code then (c.trunk ++ ((splitP l n).area ++ (splitP l n).rest)) :: (if area = (splitP l n).area ∧ c.trunk ≠ [] then [(splitP l n).rest] else []) else [])
def waysL (l : List Ctry) (c : Ctry) (area n : List UInt8) : List (List UInt8) :=
  (c.abroad ++ n.drop 1) :: (if (splitP l n).code = c.code then (c.trunk ++ ((splitP l n).area ++ (splitP l n).rest)) :: (if (area = (splitP l n).area ∧ c.trunk ≠ []) ∧ reachP l c area (splitP l n).rest = (0, n) then [(splitP l n).rest] else []) else [])

theorem way_abroad {l : List Ctry} {c : Ctry} {area n : List UInt8} (hE : planErr l = 0) (hH : HomeIn l c area) (hS : (splitP l n).err = 0) : reachP l c area (c.abroad ++ n.drop 1) = (0, n) := by
  obtain ⟨i, j, so⟩ := split_ok hS
  obtain ⟨k, hk, rfl⟩ := hH.here
  obtain ⟨-, -, ha, -, -⟩ := ctry_form (plan_ctry hE k hk)
  obtain ⟨a1, a2, a3⟩ := (digitsB_iff _ _ _).1 ha
  obtain ⟨d1, d2, d3⟩ := (digitsB_iff _ _ _).1 so.digits
  have hd : digitsB ((l.getD k noCtry).abroad ++ n.drop 1) 1 30 = true := by
    rw [digitsB_iff, digs_app, a3, d3, List.length_append]
    exact ⟨by omega, by omega, rfl⟩
  have hn : n = 43 :: n.drop 1 := by rw [so.form]; rfl
  unfold reachP
  rw [if_neg (by rw [hd]; exact Bool.noConfusion)]
  unfold reachN
  rw [if_pos (pre_append _ _), List.drop_left]
  simp only [← hn, hS, ne_eq, not_true_eq_false, if_false]
theorem same_ctry {l : List Ctry} {c : Ctry} {area n : List UInt8} (hE : planErr l = 0) (hH : HomeIn l c area) (hS : (splitP l n).err = 0) {i j : Nat} (so : SplitOk l n i j) (hc : (splitP l n).code = c.code) : l.getD i noCtry = c := by
  obtain ⟨k, hk, rfl⟩ := hH.here
  by_cases h : i = k
  · rw [h]
  · exact absurd (so.code.symm.trans hc) (codes_apart hE so.li hk h)
theorem trunk_clash {l : List Ctry} {c : Ctry} {area n : List UInt8} (hE : planErr l = 0) (hH : HomeIn l c area) (hS : (splitP l n).err = 0) {i j : Nat} (so : SplitOk l n i j) (hc : (splitP l n).code = c.code) : Lib.hasPrefix (c.trunk ++ ((splitP l n).area ++ (splitP l n).rest)) c.abroad = false ∧ 1 ≤ (splitP l n).area.length ∧ 1 ≤ (splitP l n).rest.length := by
  have hi := same_ctry hE hH hS so hc
  obtain ⟨g1, g2, g3, g4, g5, g6, g7⟩ := area_parts (plan_area hE i so.li j so.lj)
  obtain ⟨a1, a2, a3⟩ := (digitsB_iff _ _ _).1 g1
  have hl := so.low
  rw [hi] at g2 g3 g4 g5 g6 g7 a1 a2 a3 hl
  have har := so.area
  rw [hi] at har
  rw [har]
  refine ⟨?_, by omega, by omega⟩
  cases hq : Lib.hasPrefix (c.trunk ++ ((c.areas.getD j noArea).pre ++ (splitP l n).rest)) c.abroad with
  | false => rfl
  | true =>
    rw [← List.append_assoc] at hq
    rcases pre_or hq with h | h
    · rw [g2] at h; cases h
    · rw [g3] at h; cases h
theorem way_trunk {l : List Ctry} {c : Ctry} {area n : List UInt8} (hE : planErr l = 0) (hH : HomeIn l c area) (hS : (splitP l n).err = 0) (hc : (splitP l n).code = c.code) : reachP l c area (c.trunk ++ ((splitP l n).area ++ (splitP l n).rest)) = (0, n) := by
  obtain ⟨i, j, so⟩ := split_ok hS
  have hi := same_ctry hE hH hS so hc
  obtain ⟨t1, t2, t3⟩ := trunk_clash hE hH hS so hc
  have hf := so.form
  have har := so.area
  have hlow := so.low
  have hhigh := so.high
  obtain ⟨g1, g2, g3, g4, g5, g6, g7⟩ := area_parts (plan_area hE i so.li j so.lj)
  obtain ⟨-, -, -, ht, -⟩ := ctry_form (plan_ctry hE i so.li)
  rw [hi] at hf har hlow hhigh g6 ht g4
  obtain ⟨q1, q2, q3⟩ := (digitsB_iff _ _ _).1 ht
  obtain ⟨d1, d2, d3⟩ := (digitsB_iff _ _ _).1 so.digits
  have hdn : n.drop 1 = c.code ++ ((splitP l n).area ++ (splitP l n).rest) := by rw [har]; exact (congrArg (List.drop 1) hf).trans rfl
  rw [hdn, digs_app, Bool.and_eq_true] at d3
  have hd : digitsB (c.trunk ++ ((splitP l n).area ++ (splitP l n).rest)) 1 30 = true := by
    rw [digitsB_iff, digs_app, q3, d3.2, List.length_append, List.length_append, har]
    rw [har] at t2
    exact ⟨by omega, by omega, rfl⟩
  have hn : n = 43 :: (c.code ++ ((splitP l n).area ++ (splitP l n).rest)) := by rw [har]; exact hf
  unfold reachP
  rw [if_neg (by rw [hd]; exact Bool.noConfusion)]
  unfold reachN
  rw [if_neg (by simp [t1]), if_pos (pre_append _ _), List.drop_left]
  simp only [← hn, hS, ne_eq, not_true_eq_false, if_false]

theorem ways_apart {l : List Ctry} {c : Ctry} {area n : List UInt8} (hE : planErr l = 0) (hH : HomeIn l c area) (hS : (splitP l n).err = 0) (hc : (splitP l n).code = c.code) : c.trunk ++ ((splitP l n).area ++ (splitP l n).rest) ≠ c.abroad ++ n.drop 1 ∧ (splitP l n).rest ≠ c.trunk ++ ((splitP l n).area ++ (splitP l n).rest) ∧ (splitP l n).rest ≠ c.abroad ++ n.drop 1 := by
  obtain ⟨i, j, so⟩ := split_ok hS
  obtain ⟨t1, t2, t3⟩ := trunk_clash hE hH hS so hc
  have hi := same_ctry hE hH hS so hc
  have har := so.area
  have hf := so.form
  rw [hi] at hf har
  refine ⟨fun h => ?_, fun h => ?_, fun h => ?_⟩
  · rw [h, pre_append] at t1; cases t1
  · have := congrArg List.length h
    simp only [List.length_append] at this
    omega
  · have := congrArg List.length h
    have h9 := congrArg List.length ((congrArg (List.drop 1) hf).trans rfl : n.drop 1 = c.code ++ ((c.areas.getD j noArea).pre ++ (splitP l n).rest))
    simp only [List.length_append] at this h9
    rw [har] at t2
    omega

def stepW (l : List Ctry) (c : Ctry) (area n : List UInt8) (out : List (List UInt8)) (s : List UInt8) : List (List UInt8) := if reachP l c area s = (0, n) ∧ s ∉ out then out ++ [s] else out
theorem tries_fold {l : List Ctry} {c : Ctry} {area n : List UInt8} (hE : planErr l = 0) (hH : HomeIn l c area) (hS : (splitP l n).err = 0) : (triesL l c area n).foldl (stepW l c area n) [] = waysL l c area n := by
  have h1 := way_abroad hE hH hS
  unfold triesL waysL
  rw [List.foldl_cons]
  have e1 : stepW l c area n [] (c.abroad ++ n.drop 1) = [c.abroad ++ n.drop 1] := by unfold stepW; rw [if_pos ⟨h1, by simp⟩]; rfl
  rw [e1]
  by_cases hc : (splitP l n).code = c.code
  · have h2 := way_trunk hE hH hS hc
    obtain ⟨a1, a2, a3⟩ := ways_apart hE hH hS hc
    rw [if_pos hc, if_pos hc, List.foldl_cons]
    have e2 : stepW l c area n [c.abroad ++ n.drop 1] (c.trunk ++ ((splitP l n).area ++ (splitP l n).rest)) = [c.abroad ++ n.drop 1, c.trunk ++ ((splitP l n).area ++ (splitP l n).rest)] := by
      unfold stepW
      rw [if_pos ⟨h2, by simpa using a1⟩]
      rfl
    rw [e2]
    by_cases h3 : area = (splitP l n).area ∧ c.trunk ≠ []
    · rw [if_pos h3, List.foldl_cons, List.foldl_nil]
      unfold stepW
      by_cases h4 : reachP l c area (splitP l n).rest = (0, n)
      · rw [if_pos ⟨h4, fun hm => by rcases List.mem_cons.1 hm with h | hm; exact a3 h; rcases List.mem_cons.1 hm with h | hm; exact a2 h; cases hm⟩, if_pos ⟨h3, h4⟩]; rfl
      · rw [if_neg (fun h => h4 h.1), if_neg (fun h => h4 h.2)]
    · rw [if_neg h3, if_neg (fun h => h3 h.1), List.foldl_nil]
  · rw [if_neg hc, if_neg hc, List.foldl_nil]
theorem tries_filter {l : List Ctry} {c : Ctry} {area n : List UInt8} (hE : planErr l = 0) (hH : HomeIn l c area) (hS : (splitP l n).err = 0) : (triesL l c area n).filter (fun s => decide (reachP l c area s = (0, n))) = waysL l c area n := by
  have h1 := way_abroad hE hH hS
  unfold triesL waysL
  rw [List.filter_cons_of_pos (by simpa using h1)]
  by_cases hc : (splitP l n).code = c.code
  · have h2 := way_trunk hE hH hS hc
    rw [if_pos hc, if_pos hc, List.filter_cons_of_pos (by simpa using h2)]
    by_cases h3 : area = (splitP l n).area ∧ c.trunk ≠ []
    · rw [if_pos h3]
      by_cases h4 : reachP l c area (splitP l n).rest = (0, n)
      · rw [if_pos ⟨h3, h4⟩]; simp [h4]
      · rw [if_neg (fun h => h4 h.2)]; simp [h4]
    · rw [if_neg h3, if_neg (fun h => h3 h.1)]; rfl
  · rw [if_neg hc, if_neg hc]; rfl
theorem tries_but {l : List Ctry} {c : Ctry} {area n : List UInt8} (hE : planErr l = 0) (hH : HomeIn l c area) (hS : (splitP l n).err = 0) : ∀ j, j + 1 < (triesL l c area n).length → reachP l c area ((triesL l c area n).getD j []) = (0, n) ∨ j = 1 + 1 := by
  have h1 := way_abroad hE hH hS
  intro j hj
  unfold triesL at hj ⊢
  by_cases hc : (splitP l n).code = c.code
  · have h2 := way_trunk hE hH hS hc
    rw [if_pos hc] at hj ⊢
    match j, hj with
    | 0, _ => exact Or.inl h1
    | 1, _ => exact Or.inl h2
    | 2, _ => exact Or.inr rfl
    | j + 3, hj =>
      exfalso
      have h9 : (if area = (splitP l n).area ∧ c.trunk ≠ [] then [(splitP l n).rest] else []).length ≤ 1 := by split <;> simp
      simp only [List.length_cons] at hj
      omega
  · rw [if_neg hc] at hj; simp at hj

theorem tries_split {l : List Ctry} {c : Ctry} {area n : List UInt8} (hE : planErr l = 0) (hH : HomeIn l c area) (hS : (splitP l n).err = 0) : ∃ ys z, triesL l c area n = ys ++ [z] ∧ ∀ y ∈ ys, reachP l c area y = (0, n) := by
  have h1 := way_abroad hE hH hS
  unfold triesL
  by_cases hc : (splitP l n).code = c.code
  · have h2 := way_trunk hE hH hS hc
    rw [if_pos hc]
    by_cases h3 : area = (splitP l n).area ∧ c.trunk ≠ []
    · rw [if_pos h3]
      refine ⟨[c.abroad ++ n.drop 1, c.trunk ++ ((splitP l n).area ++ (splitP l n).rest)], _, rfl, fun y hy => ?_⟩
      rcases List.mem_cons.1 hy with rfl | hy
      · exact h1
      · rcases List.mem_cons.1 hy with rfl | hy
        · exact h2
        · cases hy
    · rw [if_neg h3]
      refine ⟨[c.abroad ++ n.drop 1], _, rfl, fun y hy => ?_⟩
      rcases List.mem_cons.1 hy with rfl | hy
      · exact h1
      · cases hy
  · rw [if_neg hc]
    exact ⟨[], _, rfl, fun y hy => by cases hy⟩
/-! ### How the reference asks -/
theorem ref_code {l : List Ctry} {c : Ctry} {area n : List UInt8} (hE : planErr l = 0) (hH : HomeIn l c area) (hS : (splitP l n).err = 0) : Lib.hasPrefix n (43 :: c.code) = decide ((splitP l n).code = c.code) := by
  obtain ⟨i, j, so⟩ := split_ok hS
  have hf := so.form
  by_cases hc : (splitP l n).code = c.code
  · have hi := same_ctry hE hH hS so hc
    rw [hi] at hf
    rw [decide_eq_true hc, pre_iff]
    conv => rhs; rw [hf]
    exact List.cons_prefix_cons.2 ⟨rfl, List.prefix_append _ _⟩
  · rw [decide_eq_false hc]
    cases hq : Lib.hasPrefix n (43 :: c.code) with
    | false => rfl
    | true =>
      exfalso
      obtain ⟨k, hk, rfl⟩ := hH.here
      rw [pre_iff] at hq
      generalize hr : (splitP l n).rest = r at hf
      rw [hf] at hq
      have hq2 := (List.cons_prefix_cons.1 hq).2
      have hal := plan_alone hE ((l.getD i noCtry).code ++ (((l.getD i noCtry).areas.getD j noArea).pre ++ r))
      rw [List.pairwise_iff_getElem] at hal
      have h1 : Lib.hasPrefix ((l.getD i noCtry).code ++ (((l.getD i noCtry).areas.getD j noArea).pre ++ r)) (l.getD i noCtry).code = true := pre_append _ _
      have h2 : Lib.hasPrefix ((l.getD i noCtry).code ++ (((l.getD i noCtry).areas.getD j noArea).pre ++ r)) (l.getD k noCtry).code = true := (pre_iff _ _).2 hq2
      have hli := so.li
      have ei : l[i] = l.getD i noCtry := by simp [hli]
      have ek : l[k] = l.getD k noCtry := by simp [hk]
      rcases Nat.lt_trichotomy i k with h | rfl | h
      · have := hal i k hli hk h (by rw [ei]; exact h1)
        rw [ek, h2] at this; cases this
      · exact hc so.code
      · have := hal k i hk hli h (by rw [ek]; exact h2)
        rw [ei, h1] at this; cases this
theorem ref_nat {l : List Ctry} {c : Ctry} {area n : List UInt8} (hE : planErr l = 0) (hH : HomeIn l c area) (hS : (splitP l n).err = 0) (hc : (splitP l n).code = c.code) : n.drop (43 :: c.code).length = (splitP l n).area ++ (splitP l n).rest := by
  obtain ⟨i, j, so⟩ := split_ok hS
  have hf := so.form
  have hi := same_ctry hE hH hS so hc
  have har := so.area
  rw [hi] at hf har
  conv => lhs; rw [hf]
  rw [har, List.length_cons, List.drop_succ_cons, List.drop_left]
theorem ref_area {l : List Ctry} {c : Ctry} {area n : List UInt8} (hE : planErr l = 0) (hH : HomeIn l c area) (hS : (splitP l n).err = 0) (hc : (splitP l n).code = c.code) : (Lib.hasPrefix ((splitP l n).area ++ (splitP l n).rest) area = true ∧ area ≠ []) ↔ area = (splitP l n).area := by
  obtain ⟨i, j, so⟩ := split_ok hS
  have hi := same_ctry hE hH hS so hc
  obtain ⟨t1, t2, t3⟩ := trunk_clash hE hH hS so hc
  have har := so.area
  have hlj := so.lj
  rw [hi] at har hlj
  constructor
  · rintro ⟨h1, h2⟩
    rcases hH.area with h | ⟨z, hz, rfl⟩
    · exact absurd h h2
    · rw [har] at h1 ⊢
      have hall : ∀ z, z < c.areas.length → areaErr c z = 0 := by
        obtain ⟨k, hk, rfl⟩ := hH.here
        exact plan_area hE k hk
      rcases pre_or h1 with h | h
      · rw [areas_apart hall hz hlj h]
      · rw [areas_apart hall hlj hz h]
  · rintro rfl
    exact ⟨pre_append _ _, fun h => by rw [h] at t2; simp at t2⟩
end Go.Proofs.YtacekbbndamkmaaGreatDoor

namespace Go.Proofs.YtacekbbndamkmaaGreatDoor
open Go.RowKit

/-- A slice of n integers of one kind that lies in memory. -/
def IRow (k : IntKind) (w : World) (a : Option Addr) (n : Nat) (xs : List Int) : Prop :=
  n = xs.length ∧ (n = 0 ∨ ∃ b off, a = some ⟨b, off, none⟩ ∧ b < w.heap.size ∧ ∀ i, i < n → w.cell? ⟨b, off + i, none⟩ = some (.int k (xs.getD i 0)))

theorem IRow.below {k : IntKind} {w w' : World} {a : Option Addr} {n : Nat} {xs : List Int} (h : IRow k w a n xs) (hb : Below w.heap.size w w') : IRow k w' a n xs := by
  refine ⟨h.1, h.2.imp id ?_⟩
  rintro ⟨b, off, ha, hl, hc⟩
  exact ⟨b, off, ha, Nat.lt_of_lt_of_le hl hb.size, fun i hi => (hb.cell (p := ⟨b, off + i, none⟩) hl).trans (hc i hi)⟩

theorem IRow.keeps {k : IntKind} {w w' : World} {S : Nat} {a : Option Addr} {n : Nat} {xs : List Int} (h : IRow k w a n xs) (hk : Keeps S w w') (hS : ∀ b off, a = some ⟨b, off, none⟩ → b ≠ S) : IRow k w' a n xs := by
  refine ⟨h.1, h.2.imp id ?_⟩
  rintro ⟨b, off, ha, hl, hc⟩
  exact ⟨b, off, ha, Nat.lt_of_lt_of_le hl hk.size, fun i hi => (hk.cell (p := ⟨b, off + i, none⟩) hl (hS b off ha)).trans (hc i hi)⟩

theorem getD_map_int (k : IntKind) (xs : List Int) (i : Nat) (hi : i < xs.length) : (xs.map (Value.int k))[i]? = some (.int k (xs.getD i 0)) := by
  simp [List.getD_eq_getElem?_getD, List.getElem?_eq_getElem hi]

/-- A row of the call's own reads as such a slice. -/
theorem IRow.of_own {k : IntKind} {w : World} {base : Nat} {e : TypeId} {v : Value} {n : Nat} {xs : List Int} (h : w.ownsRow base e 1 v n (xs.map (Value.int k))) : ∃ a cap, v = .slice a n cap ∧ IRow k w a n xs := by
  have hl : n = xs.length := by have := h.1; simp at this; omega
  rcases h.2 with ⟨rfl, rfl⟩ | ⟨g, cap, cur, rfl, hb, hg, _⟩
  · exact ⟨none, 0, rfl, hl, Or.inl rfl⟩
  · refine ⟨some ⟨g, 0, none⟩, cap, rfl, hl, Or.inr ⟨g, 0, rfl, (h.lt g rfl).2, fun i hi => ?_⟩⟩
    rw [Nat.zero_add, h.cellAt i (by omega), getD_map_int k xs i (by omega)]

/-- The same, with where it lies. -/
theorem IRow.of_own_at {k : IntKind} {w : World} {base : Nat} {e : TypeId} {v : Value} {n : Nat} {xs : List Int} (h : w.ownsRow base e 1 v n (xs.map (Value.int k))) : ∃ a cap, v = .slice a n cap ∧ IRow k w a n xs ∧ ∀ b off, a = some ⟨b, off, none⟩ → base ≤ b := by
  obtain ⟨a, cap, hv, hr⟩ := IRow.of_own h
  refine ⟨a, cap, hv, hr, fun b off ha => ?_⟩
  subst ha
  exact (h.lt b (by rw [hv]; rfl)).1

theorem made_ints (k : IntKind) (n : Nat) : (madeCells (Value.int k 0).cells (n * 1)).toList = List.replicate n (Value.int k 0) := by
  unfold madeCells
  apply List.ext_getElem
  · simp
  · intro i h1 h2; simp [Value.cells, Nat.mod_one]

/-- A list that is filled from its head on. -/
theorem fill_set {α : Type} (xs : List α) (z : α) (k : Nat) (hk : k < xs.length) : (xs.take k ++ List.replicate (xs.length - k) z).set k xs[k] = xs.take (k + 1) ++ List.replicate (xs.length - (k + 1)) z := by
  rw [List.set_append_right _ _ (by simp; omega)]
  have e1 : k - (xs.take k).length = 0 := by simp; omega
  rw [e1, show xs.length - k = (xs.length - (k + 1)) + 1 by omega, List.replicate_succ, List.set_cons_zero, List.take_succ_eq_append_getElem hk, List.append_assoc]
  rfl

/-- A row of n cells of the call's own at block g, the first k of which hold what they are to hold, the others z. -/
def FillRow (w : World) (base : Nat) (e : TypeId) (g n k : Nat) (vals : List Value) (z : Value) : Prop :=
  vals.length = n ∧ w.ownsRow base e 1 (.slice (some ⟨g, 0, none⟩) n n) n (vals.take k ++ List.replicate (n - k) z)

theorem FillRow.start {w : World} {base : Nat} {e : TypeId} {g n : Nat} {vals : List Value} {k : IntKind} (hl : vals.length = n) (h : w.ownsRow base e 1 (.slice (some ⟨g, 0, none⟩) n n) n (madeCells (Value.int k 0).cells (n * 1)).toList) : FillRow w base e g n 0 vals (.int k 0) := by
  rw [made_ints] at h
  exact ⟨hl, by simpa using h⟩

theorem FillRow.step {w : World} {base : Nat} {e : TypeId} {g n k : Nat} {vals : List Value} {z u : Value} (h : FillRow w base e g n k vals z) (hk : k < n) (hv : vals[k]? = some u) :
    FillRow (w.setCell ⟨g, k, none⟩ u) base e g n (k + 1) vals z ∧ (∃ c, w.cell? ⟨g, k, none⟩ = some c) ∧ w.frozen? ⟨g, k, none⟩ = false := by
  obtain ⟨hl, ho⟩ := h
  have hk2 : k < vals.length := by omega
  rw [List.getElem?_eq_getElem hk2] at hv
  injection hv with hv
  have hs := (ho.stored k u).1
  have hf := fill_set vals z k hk2
  rw [hv] at hf
  subst hl
  rw [hf] at hs
  refine ⟨⟨rfl, hs⟩, ?_, ho.frozenAt k⟩
  rw [ho.cellAt k (by omega), List.getElem?_eq_getElem (by simp; omega)]
  exact ⟨_, rfl⟩

theorem FillRow.done {w : World} {base : Nat} {e : TypeId} {g n : Nat} {vals : List Value} {z : Value} (h : FillRow w base e g n n vals z) : w.ownsRow base e 1 (.slice (some ⟨g, 0, none⟩) n n) n vals := by
  obtain ⟨hl, ho⟩ := h
  rw [List.take_of_length_le (by omega), Nat.sub_self] at ho
  simpa using ho

theorem FillRow.below {w w' : World} {base : Nat} {e : TypeId} {g n k : Nat} {vals : List Value} {z : Value} (h : FillRow w base e g n k vals z) (hb : Below w.heap.size w w') : FillRow w' base e g n k vals z := ⟨h.1, h.2.kept_below hb⟩

theorem map_at {f : Int → Int} {k : IntKind} {xs : List Int} {i : Nat} (hi : i < xs.length) : ((xs.map f).map (Value.int k))[i]? = some (.int k (f (xs.getD i 0))) := by
  simp [List.getD_eq_getElem?_getD, List.getElem?_eq_getElem hi]
end Go.Proofs.YtacekbbndamkmaaGreatDoor

set_option linter.unusedVariables false
set_option linter.unusedSimpArgs false
namespace Go.Proofs.YtacekbbndamkmaaGreatDoor
open Go.RowKit

theorem Tryz.infoByte : (Tryz.prog.info? 5).map (fun i => (i.zero, i.size, i.bytes)) = some (some (.int .u8 0), 1, 1) := by kernel_rfl
theorem add0 (b j : Nat) : (⟨b, 0, none⟩ : Addr).add j = ⟨b, j, none⟩ := by unfold Addr.add; split <;> simp_all
theorem new_cell (w : World) (cs : Array Value) (t : TypeId) (p : Nat × Nat) (j : Nat) : (w.alloc (.cells cs t p)).cell? ⟨w.heap.size, j, none⟩ = cs[j]? := by
  have h : (w.alloc (.cells cs t p)).heap[w.heap.size]? = some (.cells cs t p) := by show (w.heap.push _)[w.heap.size]? = _; simp
  simp only [World.cell?, h]
  rfl
theorem push_list : ∀ (l : List UInt8) (r : ByteArray), (l.map (fun b => (b.toNat : Int))).foldl (fun r n => r.push (UInt8.ofNat n.toNat)) r = ⟨r.data ++ l.toArray⟩ := foldl_push_byteCells
/-- Bytes as a string. -/
theorem str_back (w : World) (g cp : Nat) (l : List UInt8) (hc : ∀ j (hj : j < l.length), w.cell? ⟨g, j, none⟩ = some (.int .u8 (l[j].toNat : Int))) : (convert 99 9 (.slice (some ⟨g, 0, none⟩) l.length cp)).run Tryz.prog w = .ok (.string ⟨l.toArray⟩) w :=
  run_convert_bytes_back w 99 9 5 ⟨g, 0, none⟩ cp l Tryz.underlying99 Tryz.underlying5 Tryz.underlying9 (fun j hj => by rw [add0]; exact hc j hj)
def cellsB (l : List UInt8) : List Value := l.map fun b => .int .u8 b.toNat
def StrPost (r : Int × List UInt8) (w : World) (e : Ending) (w' : World) : Prop := e = .returned (.tuple #[.string ⟨r.2.toArray⟩, .int .i64 r.1]) ∧ Below w.heap.size w w'
theorem byte_zero {c : UInt8} : ((c.toNat : Int) = 0) ↔ c = 0 := by
  constructor
  · intro h
    have : c.toNat = 0 := by omega
    exact UInt8.toNat_inj.1 (by simpa using this)
  · rintro rfl; rfl
theorem str_at {s : List UInt8} {k : Nat} (hk : k < s.length) (h2 : k < (⟨s.toArray⟩ : ByteArray).size) : (⟨s.toArray⟩ : ByteArray)[k]'h2 = s.getD k 0 := by
  simp [hk]; rfl
end Go.Proofs.YtacekbbndamkmaaGreatDoor

set_option linter.unusedVariables false
set_option linter.unusedSimpArgs false
namespace Go.Proofs.YtacekbbndamkmaaGreatDoor
open Go.RowKit

theorem Tryz.infoStr : (Tryz.prog.info? 9).map (fun i => (i.zero, i.size, i.bytes)) = some (some (.string ⟨#[]⟩), 1, 16) := by kernel_rfl
theorem mk_inj {a b : List UInt8} : ((⟨a.toArray⟩ : ByteArray) = ⟨b.toArray⟩) ↔ a = b := by simp
theorem contains_own {w : World} {base : Nat} {v : Value} {n : Nat} {out : List (List UInt8)} (h : w.ownsRow base 9 1 v n (out.map encS)) (hn : n ≤ 1000) (s : List UInt8) :
    Calls Tryz.prog 79 #[v, .string ⟨s.toArray⟩] w fun e w' => e = .returned (.bool (decide (s ∈ out))) ∧ w' = w := by
  have hl : out.length = n := by have := h.1; simpa using this
  rcases h.2 with ⟨rfl, h0⟩ | ⟨g, cap, cur, rfl, _⟩
  · have : out = [] := List.eq_nil_of_length_eq_zero (by omega)
    subst this h0
    refine (Tryz.slices_hasS_empty none 0 _ w).mono ?_
    rintro e w' ⟨rfl, rfl⟩
    exact ⟨by simp, rfl⟩
  · refine (Tryz.slices_hasS g 0 n cap (out.map fun x => ⟨x.toArray⟩) ⟨s.toArray⟩ w (by simp; omega) (by omega) (fun j hj => ?_)).mono ?_
    · have hj' : j < out.length := by simpa using hj
      rw [Nat.zero_add, h.cellAt j (by omega)]
      simp [encS, hj']
    · rintro e w' ⟨rfl, rfl⟩
      refine ⟨?_, rfl⟩
      rw [List.take_of_length_le (by simp; omega)]
      congr 2
      rw [Bool.eq_iff_iff, Lib.containsS_iff, decide_eq_true_eq]
      simp
/-- A slice of one string that is written out. -/
theorem own_lit1 (w : World) (x : List UInt8) (base : Nat) (hb : base ≤ w.heap.size) : (w.alloc (.cells #[.string ⟨x.toArray⟩] 9)).ownsRow base 9 1 (.slice (some ⟨w.heap.size, 0, none⟩) 1 1) 1 ([x].map encS) := World.ownsRow_lit w #[.string ⟨x.toArray⟩] 1 hb (by simp only [maxLen]; omega) rfl
theorem own_keep {w w' : World} {base e size : Nat} {v : Value} {n : Nat} {xs : List Value} (h : w.ownsRow base e size v n xs) (hb : Below w.heap.size w w') : w'.ownsRow base e size v n xs := by
  refine ⟨h.1, h.2.imp id ?_⟩
  rintro ⟨g, cap, cur, rfl, h1, h2, h3⟩
  exact ⟨g, cap, cur, rfl, h1, (hb.block g (Array.getElem?_eq_some_iff.1 h2).1).trans h2, h3⟩
theorem own_below {w w' : World} {base B e size : Nat} {v : Value} {n : Nat} {xs : List Value} (h : w.ownsRow base e size v n xs) (hb : Below B w w') (hv : ∀ g, v.ownBlock = some g → g < B) : w'.ownsRow base e size v n xs := by
  refine ⟨h.1, h.2.imp id ?_⟩
  rintro ⟨g, cap, cur, rfl, h1, h2, h3⟩
  exact ⟨g, cap, cur, rfl, h1, (hb.block g (hv g rfl)).trans h2, h3⟩
theorem own_row1 {w : World} {base : Nat} {e : TypeId} {size : Nat} {v : Value} {n : Nat} {xs : List Value} (h : w.ownsRow base e size v (n + 1) xs) : ∃ g c, v = .slice (some ⟨g, 0, none⟩) (n + 1) c ∧ base ≤ g ∧ g < w.heap.size := by
  rcases h.2 with ⟨_, h0⟩ | ⟨g, cap, cur, rfl, h1, h2, _⟩
  · cases h0
  · exact ⟨g, cap, rfl, h1, (Array.getElem?_eq_some_iff.1 h2).1⟩

theorem own_le {w : World} {base base' e size : Nat} {v : Value} {n : Nat} {xs : List Value} (h : w.ownsRow base e size v n xs) (hb : base' ≤ base) : w.ownsRow base' e size v n xs := by
  refine ⟨h.1, h.2.imp id ?_⟩
  rintro ⟨g, cap, cur, rfl, h1, h2⟩
  exact ⟨g, cap, cur, rfl, Nat.le_trans hb h1, h2⟩
theorem own_shape {w : World} {base : Nat} {e : TypeId} {size : Nat} {v : Value} {n : Nat} {xs : List Value} (h : w.ownsRow base e size v n xs) : ∃ a c, v = .slice a n c := by
  rcases h.2 with ⟨rfl, rfl⟩ | ⟨g, cap, cur, rfl, _⟩
  · exact ⟨none, 0, rfl⟩
  · exact ⟨_, _, rfl⟩
theorem wp_made {P : Program} {o : Oper} {a : Act} {w w' : World} {v : Value} {K : Act → World → Prop} {Q : Exit → Act → World → Prop} (h : (execOp a.eval o).run P w = .ok (.value v) w') (hK : K (a.put o.dst v) w') : Oper.wp P o a w K Q := by
  unfold Oper.wp; rw [h]; exact hK

end Go.Proofs.YtacekbbndamkmaaGreatDoor

set_option linter.unusedVariables false
set_option linter.unusedSimpArgs false
namespace Go.Proofs.YtacekbbndamkmaaGreatDoor
open Go.RowKit

/-- n structs of sz cells each. -/
structure Cells (w : World) (sz : Nat) (a : Option Addr) (n : Nat) (cs : List (List Value)) : Prop where
  len : n = cs.length
  row : n = 0 ∨ ∃ b off, a = some ⟨b, off, none⟩ ∧ b < w.heap.size ∧ ∀ i, i < n → ∀ j, j < sz → w.cell? ⟨b, off + i * sz + j, none⟩ = (cs.getD i [])[j]?
theorem Cells.below {w w' : World} {sz : Nat} {a : Option Addr} {n : Nat} {cs : List (List Value)} (h : Cells w sz a n cs) (hb : Below w.heap.size w w') : Cells w' sz a n cs := by
  refine ⟨h.len, h.row.imp id ?_⟩
  rintro ⟨b, off, ha, hl, hc⟩
  exact ⟨b, off, ha, Nat.lt_of_lt_of_le hl hb.size, fun i hi j hj => (hb.cell (p := ⟨b, off + i * sz + j, none⟩) hl).trans (hc i hi j hj)⟩
theorem flat_len2 {sz : Nat} : ∀ {cs : List (List Value)}, (∀ c ∈ cs, c.length = sz) → cs.flatten.length = cs.length * sz
  | [], _ => by simp
  | c :: cs, h => by
    rw [List.flatten_cons, List.length_append, flat_len2 (fun x hx => h x (List.mem_cons_of_mem _ hx)), h c List.mem_cons_self, List.length_cons, Nat.succ_mul]
    omega
theorem flat_at {sz : Nat} : ∀ {cs : List (List Value)}, (∀ c ∈ cs, c.length = sz) → ∀ i, i < cs.length → ∀ j, j < sz → cs.flatten[i * sz + j]? = (cs.getD i [])[j]?
  | [], _, i, hi, _, _ => by simp at hi
  | c :: cs, h, 0, _, j, hj => by
    have hc := h c List.mem_cons_self
    rw [List.flatten_cons, Nat.zero_mul, Nat.zero_add, List.getElem?_append_left (by omega)]
    rfl
  | c :: cs, h, i + 1, hi, j, hj => by
    have hc := h c List.mem_cons_self
    rw [List.flatten_cons, List.getElem?_append_right (by rw [Nat.succ_mul]; omega), hc, show (i + 1) * sz + j - sz = i * sz + j by rw [Nat.succ_mul]; omega,
      flat_at (fun x hx => h x (List.mem_cons_of_mem _ hx)) i (by simpa using hi) j hj]
    rfl
theorem Cells.of_own {w : World} {base : Nat} {e : TypeId} {sz : Nat} {v : Value} {n : Nat} {cs : List (List Value)} (h : w.ownsRow base e sz v n cs.flatten) (hs : ∀ c ∈ cs, c.length = sz) (h0 : 0 < sz) : ∃ a c, v = .slice a n c ∧ Cells w sz a n cs := by
  have hl : cs.length = n := by
    have h1 := h.1
    rw [flat_len2 hs] at h1
    exact Nat.eq_of_mul_eq_mul_right h0 h1
  cases n with
  | zero =>
    obtain ⟨a, c, rfl⟩ := own_shape h
    exact ⟨a, c, rfl, hl.symm, Or.inl rfl⟩
  | succ m =>
    obtain ⟨g, c, rfl, h1, h2⟩ := own_row1 h
    refine ⟨_, c, rfl, hl.symm, Or.inr ⟨g, 0, rfl, h2, fun i hi j hj => ?_⟩⟩
    rw [Nat.zero_add, h.cellAt (i * sz + j) (by
      have : (i + 1) * sz ≤ (m + 1) * sz := Nat.mul_le_mul_right _ (by omega)
      rw [Nat.succ_mul] at this
      omega), flat_at hs i (by omega) j hj]
theorem getD_map {α β : Type} (f : α → β) (l : List α) (i : Nat) (x : α) (y : β) (hi : i < l.length) : (l.map f).getD i y = f (l.getD i x) := by
  simp [hi]

def Rng.cells (r : Rng) : List Value := [.string ⟨r.f.toArray⟩, .string ⟨r.t.toArray⟩]
def Own.cells (o : Own) : List Value := [.string ⟨o.r.f.toArray⟩, .string ⟨o.r.t.toArray⟩, .string ⟨o.c.toArray⟩]
def Prt.cells (p : Prt) : List Value := [.string ⟨p.n.toArray⟩, .int .i64 p.at_, .string ⟨p.c.toArray⟩]
structure RngRow (w : World) (a : Option Addr) (n : Nat) (l : List Rng) : Prop where
  cells : Cells w 2 a n (l.map Rng.cells)
  few : n ≤ 5000
  each : ∀ i, i < l.length → (l.getD i noRng).f.length ≤ 100 ∧ (l.getD i noRng).t.length ≤ 100
structure OwnRow (w : World) (a : Option Addr) (n : Nat) (l : List Own) : Prop where
  cells : Cells w 3 a n (l.map Own.cells)
  few : n ≤ 5000
  each : ∀ i, i < l.length → (l.getD i noOwn).r.f.length ≤ 100 ∧ (l.getD i noOwn).r.t.length ≤ 100 ∧ (l.getD i noOwn).c.length ≤ 100
structure PrtRow (w : World) (a : Option Addr) (n : Nat) (l : List Prt) : Prop where
  cells : Cells w 3 a n (l.map Prt.cells)
  few : n ≤ 5000
  each : ∀ i, i < l.length → (l.getD i noPrt).n.length ≤ 100 ∧ (l.getD i noPrt).c.length ≤ 100
theorem RngRow.below {w w' : World} {a : Option Addr} {n : Nat} {l : List Rng} (h : RngRow w a n l) (hb : Below w.heap.size w w') : RngRow w' a n l := ⟨h.cells.below hb, h.few, h.each⟩
theorem OwnRow.below {w w' : World} {a : Option Addr} {n : Nat} {l : List Own} (h : OwnRow w a n l) (hb : Below w.heap.size w w') : OwnRow w' a n l := ⟨h.cells.below hb, h.few, h.each⟩
theorem PrtRow.below {w w' : World} {a : Option Addr} {n : Nat} {l : List Prt} (h : PrtRow w a n l) (hb : Below w.heap.size w w') : PrtRow w' a n l := ⟨h.cells.below hb, h.few, h.each⟩
theorem RngRow.len {w : World} {a : Option Addr} {n : Nat} {l : List Rng} (h : RngRow w a n l) : n = l.length := by have := h.cells.len; simpa using this
theorem OwnRow.len {w : World} {a : Option Addr} {n : Nat} {l : List Own} (h : OwnRow w a n l) : n = l.length := by have := h.cells.len; simpa using this
theorem PrtRow.len {w : World} {a : Option Addr} {n : Nat} {l : List Prt} (h : PrtRow w a n l) : n = l.length := by have := h.cells.len; simpa using this
theorem RngRow.at {w : World} {a : Option Addr} {n : Nat} {l : List Rng} (h : RngRow w a n l) (hn : 0 < n) : ∃ b off, a = some ⟨b, off, none⟩ ∧ b < w.heap.size ∧ ∀ i, i < n → w.cell? ⟨b, off + i * 2, none⟩ = some (.string ⟨(l.getD i noRng).f.toArray⟩) ∧ w.cell? ⟨b, off + i * 2 + 1, none⟩ = some (.string ⟨(l.getD i noRng).t.toArray⟩) := by
  rcases h.cells.row with h0 | ⟨b, off, h1, h2, h3⟩
  · omega
  · refine ⟨b, off, h1, h2, fun i hi => ?_⟩
    have hl := h.len
    have e := getD_map Rng.cells l i noRng [] (by omega)
    have k0 := h3 i hi 0 (by omega)
    have k1 := h3 i hi 1 (by omega)
    rw [e] at k0 k1
    exact ⟨k0, k1⟩
theorem OwnRow.at {w : World} {a : Option Addr} {n : Nat} {l : List Own} (h : OwnRow w a n l) (hn : 0 < n) : ∃ b off, a = some ⟨b, off, none⟩ ∧ b < w.heap.size ∧ ∀ i, i < n → w.cell? ⟨b, off + i * 3, none⟩ = some (.string ⟨(l.getD i noOwn).r.f.toArray⟩) ∧ w.cell? ⟨b, off + i * 3 + 1, none⟩ = some (.string ⟨(l.getD i noOwn).r.t.toArray⟩) ∧ w.cell? ⟨b, off + i * 3 + 2, none⟩ = some (.string ⟨(l.getD i noOwn).c.toArray⟩) := by
  rcases h.cells.row with h0 | ⟨b, off, h1, h2, h3⟩
  · omega
  · refine ⟨b, off, h1, h2, fun i hi => ?_⟩
    have hl := h.len
    have e := getD_map Own.cells l i noOwn [] (by omega)
    have k0 := h3 i hi 0 (by omega)
    have k1 := h3 i hi 1 (by omega)
    have k2 := h3 i hi 2 (by omega)
    rw [e] at k0 k1 k2
    exact ⟨k0, k1, k2⟩
theorem PrtRow.at {w : World} {a : Option Addr} {n : Nat} {l : List Prt} (h : PrtRow w a n l) (hn : 0 < n) : ∃ b off, a = some ⟨b, off, none⟩ ∧ b < w.heap.size ∧ ∀ i, i < n → w.cell? ⟨b, off + i * 3, none⟩ = some (.string ⟨(l.getD i noPrt).n.toArray⟩) ∧ w.cell? ⟨b, off + i * 3 + 1, none⟩ = some (.int .i64 (l.getD i noPrt).at_) ∧ w.cell? ⟨b, off + i * 3 + 2, none⟩ = some (.string ⟨(l.getD i noPrt).c.toArray⟩) := by
  rcases h.cells.row with h0 | ⟨b, off, h1, h2, h3⟩
  · omega
  · refine ⟨b, off, h1, h2, fun i hi => ?_⟩
    have hl := h.len
    have e := getD_map Prt.cells l i noPrt [] (by omega)
    have k0 := h3 i hi 0 (by omega)
    have k1 := h3 i hi 1 (by omega)
    have k2 := h3 i hi 2 (by omega)
    rw [e] at k0 k1 k2
    exact ⟨k0, k1, k2⟩
end Go.Proofs.YtacekbbndamkmaaGreatDoor

set_option linter.unusedVariables false
set_option linter.unusedSimpArgs false
namespace Go.Proofs.YtacekbbndamkmaaGreatDoor
open Go.RowKit

/-- The table of powers of ten is laid, ahead of block S. -/
def TabW (S : Nat) (w : World) : Prop := Lib.TabIs Tryz.prog w "internal/strconv.uint64pow10" .u64 Lib.pow10Tab ∧ 1 < S
theorem gPow : Tryz.prog.globalNamed "internal/strconv.uint64pow10" = some 1 := by kernel_rfl
theorem tab_block {w w' : World} {S : Nat} (h : TabW S w) (hb : w'.heap[1]? = w.heap[1]?) : TabW S w' := by
  refine ⟨?_, h.2⟩
  have h1 := h.1
  unfold Lib.TabIs World.var? at h1 ⊢
  rw [gPow] at h1 ⊢
  simp only [Option.bind_some] at h1 ⊢
  rw [hb]
  exact h1
theorem tab_keeps {w w' : World} {S : Nat} (h : TabW S w) (hk : Keeps S w w') (hS : S < w.heap.size) : TabW S w' :=
  tab_block h (hk.block _ (Nat.lt_trans h.2 hS) (Nat.ne_of_lt h.2))
theorem tab_below {w w' : World} {S B : Nat} (h : TabW S w) (hb : Below B w w') (hS : S ≤ B) : TabW S w' :=
  tab_block h (hb.block _ (Nat.lt_of_lt_of_le h.2 hS))
theorem below_grow (w : World) (q : Nat) (os : Array Obj) : Below w.heap.size w (Go.Sort.grow (w.drewN q) os) := by
  refine ⟨rfl, rfl, rfl, ?_, fun k hk => Go.Sort.heap_grow_old _ _ hk⟩
  rw [Go.Sort.size_grow]
  exact Nat.le_add_right _ _
end Go.Proofs.YtacekbbndamkmaaGreatDoor

set_option linter.unusedVariables false
set_option linter.unusedSimpArgs false
namespace Go.Proofs.YtacekbbndamkmaaGreatDoor
open Go.RowKit

def PartsPost (x : Spl) (w : World) (e : Ending) (w' : World) : Prop := e = .returned (.tuple #[.agg #[.string ⟨x.code.toArray⟩, .string ⟨x.area.toArray⟩, .string ⟨x.rest.toArray⟩], .int .i64 x.err]) ∧ Below w.heap.size w w'
theorem row3 (w : World) (B : Nat) (v0 v1 v2 : Value) : ((w.setCell ⟨B, 0, none⟩ v0).setCell ⟨B, 1, none⟩ v1).setCell ⟨B, 2, none⟩ v2 = w.setCells B 0 [v0, v1, v2] := rfl
theorem there3 {w : World} {B : Nat} {v0 v1 v2 : Value} (h0 : w.cell? ⟨B, 0, none⟩ = some v0) (h1 : w.cell? ⟨B, 1, none⟩ = some v1) (h2 : w.cell? ⟨B, 2, none⟩ = some v2) (hf : ∀ j, w.frozen? ⟨B, j, none⟩ = false) : w.there B 0 3 := fun j hj => by
  match j, hj with
  | 0, _ => exact ⟨by rw [h0]; rfl, hf _⟩
  | 1, _ => exact ⟨by rw [h1]; rfl, hf _⟩
  | 2, _ => exact ⟨by rw [h2]; rfl, hf _⟩

end Go.Proofs.YtacekbbndamkmaaGreatDoor

set_option linter.unusedVariables false
set_option linter.unusedSimpArgs false
namespace Go.Proofs.YtacekbbndamkmaaGreatDoor
open Go.RowKit

theorem atoi_l (s : List UInt8) (n : Int) (hl : s.length ≤ 18) (h : Lib.atoi s = some n) (w : World) : Calls Tryz.prog 109 #[.string ⟨s.toArray⟩] w fun e w' => e = .returned (.tuple #[.int .i64 n, .nilIface]) ∧ Below w.heap.size w w' := (Tryz.strconv_Atoi ⟨s.toArray⟩ n hl h w).mono (fun e w' ⟨h1, t, h2⟩ => ⟨h1, by rw [h2]; exact ⟨rfl, rfl, rfl, by rw [Lib.bytesWorld_size]; omega, fun k hk => Lib.bytesWorld_at_old w _ _ k hk⟩⟩)

def r0S : List UInt8 := [43, 49, 48, 48, 48]
def r1S : List UInt8 := [43, 49, 48, 48, 57]
end Go.Proofs.YtacekbbndamkmaaGreatDoor

set_option linter.unusedVariables false
set_option linter.unusedSimpArgs false
namespace Go.Proofs.YtacekbbndamkmaaGreatDoor
open Go.RowKit

theorem in_any (n lo hi : Int) (w : World) : Calls Tryz.prog 42 #[.int .i64 n, .int .i64 lo, .int .i64 hi] w fun e w' => e = .returned (.bool (decide (lo ≤ n) && decide (n ≤ hi))) ∧ w = w' := by
  by_cases h1 : lo ≤ n
  · go_enter Tryz.func42, Tryz.ntmps42
    go_wp2
    go_ret
    exact ⟨by rw [decide_eq_true h1]; rfl, rfl⟩
  · go_enter Tryz.func42, Tryz.ntmps42
    go_wp2
    go_ret
    exact ⟨by rw [decide_eq_false (show ¬ lo ≤ n by omega)]; rfl, rfl⟩

theorem digital_l (s : List UInt8) (lo hi : Int) (w : World) (hs : s.length ≤ 1000000) : Calls Tryz.prog 43 #[.string ⟨s.toArray⟩, .int .i64 lo, .int .i64 hi] w fun e w' => e = .returned (.bool (digitsB s lo hi)) ∧ Below w.heap.size w w' := by
  have hcon := trim_digits ⟨s.toArray⟩
  have hd : Hid (digitsB s lo hi = ((decide (lo ≤ (s.length : Int)) && decide ((s.length : Int) ≤ hi)) && (Lib.trimS s digitSet).isEmpty)) := by show _ = _; rw [Bool.and_assoc]; rfl
  have hcon : ∀ w, Calls Tryz.prog 85 #[.string ⟨s.toArray⟩, .string ⟨#[48, 49, 50, 51, 52, 53, 54, 55, 56, 57]⟩] w fun e w' => e = .returned (.string ⟨(Lib.trimS s digitSet).toArray⟩) ∧ Below w.heap.size w w' := fun w => hcon w (by show s.length ≤ _; omega)
  generalize Lib.trimS s digitSet = r at hcon hd
  generalize hg : (decide (lo ≤ (s.length : Int)) && decide ((s.length : Int) ≤ hi)) = g at hd
  have HG := Lib.hid hg
  have HCON := Lib.hid hcon
  clear hg hcon
  go_enter Tryz.func43, Tryz.ntmps43
  go_wp2_with fail
  refine (in_any _ lo hi _).mono ?_
  rintro e w1 ⟨rfl, rfl⟩
  rw [HG.out]
  cases g
  · go_wp2_with fail
    go_ret
    exact ⟨by rw [hd.out]; rfl, Below.refl _ _⟩
  · go_wp2_with fail
    refine (HCON.out _).mono ?_
    rintro e w2 ⟨rfl, hb⟩
    go_wp2_with fail
    go_ret
    exact ⟨by rw [hd.out]; cases r <;> rfl, hb⟩

theorem isNumB_eq (s : List UInt8) : isNumB s = (Lib.hasPrefix s [43] && (digitsB (s.drop 1) 4 15 && ((s.drop 1).headD 0 != 48))) := by
  unfold isNumB Lib.trimPrefix
  cases h : Lib.hasPrefix s [43] with
  | false => rfl
  | true => rfl

theorem form_l (s : List UInt8) (w : World) (hs : s.length ≤ 1000) : Calls Tryz.prog 67 #[.string ⟨s.toArray⟩] w fun e w' => e = .returned (.bool (isNumB s)) ∧ Below w.heap.size w w' := by
  have HD := Lib.hid (isNumB_eq s)
  have HPL : Hid (Lib.hasPrefix s [43] = true → 1 ≤ s.length) := fun h => pre_len h
  have HDL : Hid (digitsB (s.drop 1) 4 15 = true → ∃ c d, s.drop 1 = c :: d) := fun h => by
    unfold digitsB at h
    simp only [Bool.and_eq_true, decide_eq_true_eq] at h
    cases h9 : s.drop 1 with
    | nil => rw [h9] at h; simp at h
    | cons c d => exact ⟨c, d, rfl⟩
  have hcon := fun w => hasPrefix_l s [43] w
  generalize Lib.hasPrefix s [43] = g at HD HPL hcon
  have hcon2 := fun w => digital_l (s.drop 1) 4 15 w (by rw [List.length_drop]; omega)
  generalize hg2 : digitsB (s.drop 1) 4 15 = g2 at HD HDL hcon2
  generalize isNumB s = R at HD ⊢
  go_enter Tryz.func67, Tryz.ntmps67
  go_wp2_with fail
  refine (hcon _).mono ?_
  rintro e w1 ⟨rfl, rfl⟩
  cases g
  · have HF : Hid (R = false) := HD.out
    go_wp2_with fail
    go_ret
    exact ⟨by rw [HF.out]; rfl, Below.refl _ _⟩
  · have h1 := HPL.out rfl
    go_wp2_with fail
    rw [extract_drop]
    refine (hcon2 _).mono ?_
    rintro e w2 ⟨rfl, hb⟩
    have HB := Lib.hid hb
    clear hb
    cases g2
    · have HF : Hid (R = false) := HD.out
      go_wp2_with fail
      go_ret
      exact ⟨by rw [HF.out]; rfl, HB.out⟩
    · obtain ⟨c, d, hcd⟩ := HDL.out rfl
      have HF : Hid (R = (c != 48)) := by show _ = _; rw [HD.out, hcd]; rfl
      obtain ⟨x, rfl⟩ : ∃ x, s = x :: c :: d := by
        cases s with
        | nil => cases hcd
        | cons x t => exact ⟨x, by simpa using hcd⟩
      clear hcd HD hcon hcon2 hg2 HDL HPL
      go_wp2_with fail
      go_ret
      exact ⟨by rw [HF.out, ← byte_bne48]; rfl, HB.out⟩

end Go.Proofs.YtacekbbndamkmaaGreatDoor

set_option linter.unusedVariables false
set_option linter.unusedSimpArgs false
namespace Go.Proofs.YtacekbbndamkmaaGreatDoor
open Go.RowKit

theorem decT_snoc (b : UInt8) : ∀ (d : List UInt8) (acc : Nat), decT acc (d ++ [b]) = decT acc d * 10 + (b.toNat - 48)
  | [], acc => rfl
  | c :: d, acc => by
    show decT (acc * 10 + (c.toNat - 48)) (d ++ [b]) = _
    rw [decT_snoc b d]
    rfl
theorem ofNat_dig {b : UInt8} (h1 : 48 ≤ b.toNat) (h2 : b.toNat ≤ 57) : UInt8.ofNat (48 + (b.toNat - 48)) = b := by
  rw [show 48 + (b.toNat - 48) = b.toNat by omega]
  exact UInt8.ofNat_toNat
theorem digs_mem {l : List UInt8} (h : digs l = true) {b : UInt8} (hb : b ∈ l) : 48 ≤ b.toNat ∧ b.toNat ≤ 57 := by
  unfold digs at h
  have := List.all_eq_true.1 h b hb
  simpa using this
/-- The numeral of what digits say. -/
theorem decDigits_dec : ∀ (n : Nat) (d : List UInt8), d.length = n + 1 → digs d = true → (d.headD 0 ≠ 48 ∨ n = 0) → Lib.decDigits (decT 0 d) = d ∧ (d.headD 0 ≠ 48 → 1 ≤ decT 0 d)
  | 0, d, hl, hd, _ => by
    match d, hl with
    | [b], _ => 
      obtain ⟨h1, h2⟩ := digs_mem hd (b := b) (by simp)
      have e : decT 0 [b] = b.toNat - 48 := by show 0 * 10 + (b.toNat - 48) = _; omega
      rw [e, Lib.decDigits, dif_pos (by omega), ofNat_dig h1 h2]
      refine ⟨rfl, fun h => ?_⟩
      have h3 : b.toNat ≠ 48 := fun h9 => h (by show b = 48; exact UInt8.toNat_inj.1 h9)
      omega
  | n + 1, d, hl, hd, hh => by
    obtain ⟨d', b, rfl⟩ : ∃ d' b, d = d' ++ [b] := ⟨d.dropLast, d.getLast (by intro h; rw [h] at hl; cases hl), (List.dropLast_concat_getLast _).symm⟩
    rw [List.length_append, List.length_singleton] at hl
    have hl' : d'.length = n + 1 := by omega
    rw [digs_app] at hd
    simp only [Bool.and_eq_true] at hd
    obtain ⟨h1, h2⟩ := digs_mem hd.2 (b := b) (by simp)
    have hhd : (d' ++ [b]).headD 0 = d'.headD 0 := by
      cases d' with
      | nil => cases hl'
      | cons x d' => rfl
    rw [hhd] at hh ⊢
    have hne : d'.headD 0 ≠ 48 := hh.elim id (fun h => by cases h)
    obtain ⟨k1, k2⟩ := decDigits_dec n d' hl' hd.1 (Or.inl hne)
    have k3 := k2 hne
    rw [decT_snoc]
    refine ⟨?_, fun _ => by omega⟩
    rw [Lib.decDigits, dif_neg (by omega)]
    rw [show (decT 0 d' * 10 + (b.toNat - 48)) / 10 = decT 0 d' by omega, show (decT 0 d' * 10 + (b.toNat - 48)) % 10 = b.toNat - 48 by omega, k1, ofNat_dig h1 h2]
theorem decDigits_head : ∀ (u : Nat), 1 ≤ u → (Lib.decDigits u).headD 0 ≠ 48 := fun u => by
  induction u using Nat.strongRecOn with
  | ind u ih =>
    intro h
    rw [Lib.decDigits]
    by_cases h9 : u < 10
    · rw [dif_pos h9]
      show UInt8.ofNat (48 + u) ≠ 48
      intro e
      have := congrArg UInt8.toNat e
      rw [UInt8.toNat_ofNat_of_lt' (by show 48 + u < 256; omega)] at this
      have h48 : (48 : UInt8).toNat = 48 := rfl
      omega
    · rw [dif_neg h9]
      have := ih (u / 10) (by omega) (by omega)
      have hne : Lib.decDigits (u / 10) ≠ [] := by
        intro e
        have h3 := Lib.decDigits_length (u / 10)
        rw [e] at h3
        have := Lib.nDigits_pos (u / 10)
        simp at h3
        omega
      cases hc : Lib.decDigits (u / 10) with
      | nil => exact absurd hc hne
      | cons x r => rw [hc] at this; exact this
theorem numeral_iff {d : List UInt8} (h1 : 1 ≤ d.length) (hd : digs d = true) : Lib.decDigits (decT 0 d) = d ↔ (d.headD 0 ≠ 48 ∨ d = [48]) := by
  refine ⟨fun h => ?_, fun h => ?_⟩
  · by_cases hh : d.headD 0 = 48
    · right
      by_cases hu : 1 ≤ decT 0 d
      · have := decDigits_head _ hu
        rw [h] at this
        exact absurd hh this
      · have e : decT 0 d = 0 := by omega
        rw [e, Lib.decDigits, dif_pos (by decide)] at h
        exact h.symm
    · exact Or.inl hh
  · rcases h with h | h
    · exact (decDigits_dec (d.length - 1) d (by omega) hd (Or.inl h)).1
    · subst h
      exact (decDigits_dec 0 [48] rfl hd (Or.inr rfl)).1
/-- Behind a sign; a number that is read. -/
def unsign (s : List UInt8) : List UInt8 := Lib.trimPrefix s [45]
def signB (s : List UInt8) : Bool := Lib.hasPrefix s [45]
def rawB (s : List UInt8) (m : Int) : Bool := digitsB (unsign s) 1 m
def canonB (s : List UInt8) : Bool := !((unsign s).headD 0 == 48) || (decide (unsign s = [48]) && !signB s)
def numOk (s : List UInt8) : Bool := rawB s 12 && canonB s
def numZ (s : List UInt8) : Int := (Lib.atoi s).getD 0
theorem raw_parts {s : List UInt8} {m : Int} (h : rawB s m = true) : 1 ≤ (unsign s).length ∧ ((unsign s).length : Int) ≤ m ∧ digs (unsign s) = true := by
  unfold rawB digitsB at h
  rw [digs_in] at h
  simp only [Bool.and_eq_true, decide_eq_true_eq] at h
  exact ⟨by omega, h.2.1, h.2.2⟩
theorem sign_cases (s : List UInt8) : (signB s = true ∧ s = 45 :: unsign s) ∨ (signB s = false ∧ unsign s = s ∧ s.headD 0 ≠ 45) ∨ s = [] := by
  cases s with
  | nil => exact Or.inr (Or.inr rfl)
  | cons c s =>
    by_cases hc : c = 45
    · subst hc; exact Or.inl ⟨rfl, rfl⟩
    · have h1 : signB (c :: s) = false := by
        show ((45 : UInt8) == c && List.isPrefixOf [] s) = false
        rw [beq_eq_false_iff_ne.2 (Ne.symm hc)]; rfl
      refine Or.inr (Or.inl ⟨h1, ?_, hc⟩)
      unfold unsign Lib.trimPrefix
      have h2 : Lib.hasPrefix (c :: s) [45] = false := h1
      rw [h2]; rfl
theorem decNat_digs {d : List UInt8} (h1 : 1 ≤ d.length) (hd : digs d = true) : Lib.decNat d = some (decT 0 d) := by
  unfold Lib.decNat
  cases d with
  | nil => cases h1
  | cons b r => exact dec_some _ 0 hd
/-- What a row of digits, with a sign or without, is read as. -/
theorem atoi_raw {s : List UInt8} {m : Int} (h : rawB s m = true) : Lib.atoi s = some (if signB s = true then -(decT 0 (unsign s) : Int) else (decT 0 (unsign s) : Int)) := by
  obtain ⟨h1, h2, h3⟩ := raw_parts h
  rcases sign_cases s with ⟨q1, q2⟩ | ⟨q1, q2, q3⟩ | q
  · rw [q1, if_pos rfl]
    rw [show Lib.atoi s = Lib.atoi (45 :: unsign s) by rw [← q2]]
    show (Lib.decNat (unsign s)).map (fun m : Nat => -(m : Int)) = _
    rw [decNat_digs h1 h3]; rfl
  · rw [q1, if_neg (by decide), q2]
    rw [q2] at h1 h3
    cases s with
    | nil => cases h1
    | cons b r =>
      have h4 := digs_mem h3 (b := b) (by simp)
      have e1 : ((b : UInt8) == 45) = false := beq_eq_false_iff_ne.2 q3
      have e2 : ((b : UInt8) == 43) = false := beq_eq_false_iff_ne.2 (fun e => by rw [e] at h4; exact absurd h4.1 (by decide))
      unfold Lib.atoi
      simp only [e1, e2, decNat_digs h1 h3]; rfl
  · subst q; cases h1
theorem dec_bound {s : List UInt8} (h : rawB s 12 = true) : decT 0 (unsign s) < 1000000000000 := by
  obtain ⟨h1, h2, h3⟩ := raw_parts h
  have h4 := dec_lt (unsign s) 0 h3
  have h5 : (10 : Nat) ^ (unsign s).length ≤ 10 ^ 12 := Nat.pow_le_pow_right (by omega) (by omega)
  omega
theorem numZ_raw {s : List UInt8} (h : rawB s 12 = true) : Lib.atoi s = some (numZ s) ∧ -1000000000000 ≤ numZ s ∧ numZ s ≤ 1000000000000 := by
  have h1 := atoi_raw h
  have h2 := dec_bound h
  have e : numZ s = if signB s = true then -(decT 0 (unsign s) : Int) else (decT 0 (unsign s) : Int) := by unfold numZ; rw [h1]; rfl
  rw [e]
  refine ⟨h1, ?_⟩
  split <;> omega
/-- The numeral again: where no needless zero stands, and no sign ahead of nothing. -/
theorem itoa_back {s : List UInt8} (h : rawB s 12 = true) : (Lib.itoa (numZ s) = s) ↔ canonB s = true := by
  obtain ⟨h1, h2, h3⟩ := raw_parts h
  have h4 := atoi_raw h
  have e : numZ s = if signB s = true then -(decT 0 (unsign s) : Int) else (decT 0 (unsign s) : Int) := by unfold numZ; rw [h4]; rfl
  have hn := numeral_iff h1 h3
  unfold canonB
  rcases sign_cases s with ⟨q1, q2⟩ | ⟨q1, q2, q3⟩ | q
  · rw [q1, if_pos rfl] at e
    rw [e, q1]
    simp only [Bool.not_true, Bool.and_false, Bool.or_false, Bool.not_eq_true', beq_eq_false_iff_ne]
    by_cases hz : decT 0 (unsign s) = 0
    · rw [hz]
      have hh : (unsign s).headD 0 = 48 := by
        by_cases hh : (unsign s).headD 0 = 48
        · exact hh
        · have := (decDigits_dec ((unsign s).length - 1) _ (by omega) h3 (Or.inl hh)).2 hh
          omega
      refine ⟨fun h9 => ?_, fun h9 => absurd hh h9⟩
      have h10 : Lib.itoa (-((0 : Nat) : Int)) = [48] := by unfold Lib.itoa; rw [if_neg (by decide)]; rw [Lib.decDigits]; rfl
      rw [h10] at h9
      rw [← h9] at q1
      exact absurd q1 (by decide)
    · have h10 : Lib.itoa (-(decT 0 (unsign s) : Int)) = 45 :: Lib.decDigits (decT 0 (unsign s)) := by
        unfold Lib.itoa
        rw [if_pos (by omega)]
        rw [show (-(decT 0 (unsign s) : Int)).natAbs = decT 0 (unsign s) by omega]
      rw [h10]
      refine ⟨fun h9 => ?_, fun h9 => ?_⟩
      · rw [q2] at h9
        have h11 : Lib.decDigits (decT 0 (unsign s)) = unsign s := by
          have h12 := (List.cons.inj h9).2
          rw [← q2] at h12
          exact h12
        rcases hn.1 h11 with h12 | h12
        · exact h12
        · rw [h12] at hz; exact absurd rfl hz
      · rw [hn.2 (Or.inl h9)]
        exact q2.symm
  · rw [q1, if_neg (by decide)] at e
    rw [e, q1, q2]
    rw [q2] at hn
    have h10 : Lib.itoa (decT 0 s : Int) = Lib.decDigits (decT 0 s) := by
      unfold Lib.itoa
      rw [if_neg (by omega)]
      rfl
    rw [h10, hn]
    simp
  · subst q; cases h1
end Go.Proofs.YtacekbbndamkmaaGreatDoor

set_option linter.unusedVariables false
set_option linter.unusedSimpArgs false
namespace Go.Proofs.YtacekbbndamkmaaGreatDoor
open Go.RowKit

theorem bld_write (B b : Nat) (bs : List Value) (s : ByteArray) (w : World) (h : Lib.IsBuilder 101 5 B b bs w) (hlen : bs.length + s.size ≤ 140737488355328) (hBw : B ≤ w.heap.size) :
    Calls Tryz.prog 69 #[.pointer (some ⟨b, 0, none⟩), .string s] w fun e w' => e = .returned (.tuple #[.int .i64 s.size, .nilIface]) ∧ (Lib.BuilderAt 101 5 B b (.pointer (some ⟨b, 0, none⟩)) (bs ++ Lib.strCells s) w' ∧ Below B w w') := Any.Builder_WriteString { Tryz.lays105 with } Tryz.extra105 B b bs s w h hlen hBw
theorem bld_string (B b : Nat) (l : List UInt8) (w : World) (h : Lib.IsBuilder 101 5 B b (Lib.byteCells l) w) (hBw : B ≤ w.heap.size) :
    Calls Tryz.prog 71 #[.pointer (some ⟨b, 0, none⟩)] w fun e w' => e = .returned (.string ⟨l.toArray⟩) ∧ Below B w w' := Any.Builder_String_any { Tryz.lays105 with } Tryz.extra105 B b l w h hBw
end Go.Proofs.YtacekbbndamkmaaGreatDoor

namespace Go.Proofs.YtacekbbndamkmaaGreatDoor
open Go.RowKit

def isKeyB (l : List UInt8) : Bool := decide (1 ≤ l.length) && (decide (l.length ≤ 40) && (decide (97 ≤ (l.headD 0).toNat) && (decide ((l.headD 0).toNat ≤ 122) && allIn l keySet)))

theorem trim_keys (s : ByteArray) (w : World) (hs : s.size ≤ 9223372036854775807) :
    Calls Tryz.prog 85 #[.string s, .string ⟨#[97, 98, 99, 100, 101, 102, 103, 104, 105, 106, 107, 108, 109, 110, 111, 112, 113, 114, 115, 116, 117, 118, 119, 120, 121, 122, 48, 49, 50, 51, 52, 53, 54, 55, 56, 57, 45, 95]⟩] w fun e w' => e = .returned (.string ⟨(Lib.trimS s.data.toList keySet).toArray⟩) ∧ Below w.heap.size w w' :=
  Tryz.strings_Trim_set s ⟨#[97, 98, 99, 100, 101, 102, 103, 104, 105, 106, 107, 108, 109, 110, 111, 112, 113, 114, 115, 116, 117, 118, 119, 120, 121, 122, 48, 49, 50, 51, 52, 53, 54, 55, 56, 57, 45, 95]⟩ w hs (by decide) (Go.Proofs.ascii_of_all (by decide))

def isMomB (n : Int) : Bool := decide (0 ≤ n) && decide (n < 345686400000)

theorem isMoment_any (n : Int) (w : World) :
    Calls Tryz.prog 64 #[.int .i64 n] w fun e w' => e = .returned (.bool (isMomB n)) ∧ w = w' := by
  by_cases h1 : 0 ≤ n
  · have hd : Hid (isMomB n = decide (n < 345686400000)) := by show isMomB n = _; unfold isMomB; rw [decide_eq_true h1]; simp
    go_enter Tryz.func64, Tryz.ntmps64
    go_wp2
    go_ret
    exact ⟨by rw [hd.out]; rfl, rfl⟩
  · have hd : Hid (isMomB n = false) := by show isMomB n = _; unfold isMomB; rw [decide_eq_false h1]; simp
    go_enter Tryz.func64, Tryz.ntmps64
    go_wp2
    go_ret
    exact ⟨by rw [hd.out]; rfl, rfl⟩
end Go.Proofs.YtacekbbndamkmaaGreatDoor

set_option linter.unusedVariables false
set_option linter.unusedSimpArgs false
namespace Go.Proofs.YtacekbbndamkmaaGreatDoor
open Go.RowKit

structure Rate where
  p : List UInt8
  price : Int
  closed : Bool
def noRate : Rate := ⟨[], 0, false⟩
structure Deck where
  from_ : Int
  setup : Int
  least : Int
  step : Int
  ra : Option Addr
  rn : Nat
  rc : Nat
  rates : List Rate
def noDeck : Deck := ⟨0, 0, 0, 0, none, 0, 0, []⟩
structure Carr where
  key : List UInt8
  lines : Int
  da : Option Addr
  dn : Nat
  dc : Nat
  decks : List Deck
def noCarr : Carr := ⟨[], 0, none, 0, 0, []⟩
def Rate.cells (r : Rate) : List Value := [.string ⟨r.p.toArray⟩, .int .i64 r.price, .bool r.closed]
def Deck.cells (d : Deck) : List Value := [.int .i64 d.from_, .int .i64 d.setup, .int .i64 d.least, .int .i64 d.step, .slice d.ra d.rn d.rc]
def Carr.cells (c : Carr) : List Value := [.string ⟨c.key.toArray⟩, .int .i64 c.lines, .slice c.da c.dn c.dc]
/-- Between bounds. -/
def inB (n lo hi : Int) : Bool := decide (lo ≤ n) && decide (n ≤ hi)
/-- The beginning of digits of a number. -/
def preB (s : List UInt8) : Bool := digitsB s 0 15 && !(Lib.hasPrefix s [48])
/-- The error of rate i. -/
def rateErr (l : List Rate) (i : Nat) : Int :=
  if preB (l.getD i noRate).p = false then 3
  else if 0 < i ∧ Op.bytesLess (l.getD (i - 1) noRate).p (l.getD i noRate).p = false then 7
  else if inB (l.getD i noRate).price 0 100000000 = false then 1
  else if (l.getD i noRate).closed = true ∧ (l.getD i noRate).price ≠ 0 then 3
  else 0
def deckNum (d : Deck) : Bool := isMomB d.from_ && (inB d.setup 0 100000000 && (inB d.least 0 86400000 && inB d.step 1 86400000))
def deckErr (d : Deck) : Int :=
  if deckNum d = false then 1 else if 5000 < d.rates.length then 2 else firstErr (rateErr d.rates) d.rates.length
def deckAtErr (l : List Deck) (k : Nat) : Int :=
  if deckErr (l.getD k noDeck) ≠ 0 then deckErr (l.getD k noDeck) else if 0 < k ∧ (l.getD k noDeck).from_ ≤ (l.getD (k - 1) noDeck).from_ then 7 else 0
def carrErr (l : List Carr) (i : Nat) : Int :=
  if isKeyB (l.getD i noCarr).key = false then 5
  else if 0 < i ∧ Op.bytesLess (l.getD (i - 1) noCarr).key (l.getD i noCarr).key = false then 7
  else if inB (l.getD i noCarr).lines 1 100000 = false then 1
  else if 20 < (l.getD i noCarr).decks.length then 2
  else firstErr (deckAtErr (l.getD i noCarr).decks) (l.getD i noCarr).decks.length
def carrsErr (l : List Carr) : Int := if 50 < l.length then 2 else firstErr (carrErr l) l.length

/-- Rates, decks, carriers in memory. -/
structure RateRow (w : World) (a : Option Addr) (n : Nat) (l : List Rate) : Prop where
  cells : Cells w 3 a n (l.map Rate.cells)
  few : n ≤ 5000
  each : ∀ i, i < l.length → (l.getD i noRate).p.length ≤ 100000 ∧ -2000000000000 ≤ (l.getD i noRate).price ∧ (l.getD i noRate).price ≤ 2000000000000
theorem RateRow.below {w w' : World} {a : Option Addr} {n : Nat} {l : List Rate} (h : RateRow w a n l) (hb : Below w.heap.size w w') : RateRow w' a n l := ⟨h.cells.below hb, h.few, h.each⟩
theorem RateRow.len {w : World} {a : Option Addr} {n : Nat} {l : List Rate} (h : RateRow w a n l) : n = l.length := by have := h.cells.len; simpa using this
structure DeckFine (w : World) (d : Deck) : Prop where
  row : RateRow w d.ra d.rn d.rates
  cap : d.rn ≤ d.rc
  b1 : -2000000000000 ≤ d.from_ ∧ d.from_ ≤ 2000000000000
  b2 : -2000000000000 ≤ d.setup ∧ d.setup ≤ 2000000000000
  b3 : -2000000000000 ≤ d.least ∧ d.least ≤ 2000000000000
  b4 : -2000000000000 ≤ d.step ∧ d.step ≤ 2000000000000
theorem DeckFine.below {w w' : World} {d : Deck} (h : DeckFine w d) (hb : Below w.heap.size w w') : DeckFine w' d := ⟨h.row.below hb, h.cap, h.b1, h.b2, h.b3, h.b4⟩
structure DeckRow (w : World) (a : Option Addr) (n : Nat) (l : List Deck) : Prop where
  cells : Cells w 5 a n (l.map Deck.cells)
  few : n ≤ 100
  each : ∀ i, i < l.length → DeckFine w (l.getD i noDeck)
theorem DeckRow.below {w w' : World} {a : Option Addr} {n : Nat} {l : List Deck} (h : DeckRow w a n l) (hb : Below w.heap.size w w') : DeckRow w' a n l := ⟨h.cells.below hb, h.few, fun i hi => (h.each i hi).below hb⟩
theorem DeckRow.len {w : World} {a : Option Addr} {n : Nat} {l : List Deck} (h : DeckRow w a n l) : n = l.length := by have := h.cells.len; simpa using this
structure CarrFine (w : World) (c : Carr) : Prop where
  row : DeckRow w c.da c.dn c.decks
  cap : c.dn ≤ c.dc
  key : c.key.length ≤ 100
  b1 : -2000000000000 ≤ c.lines ∧ c.lines ≤ 2000000000000
theorem CarrFine.below {w w' : World} {d : Carr} (h : CarrFine w d) (hb : Below w.heap.size w w') : CarrFine w' d := ⟨h.row.below hb, h.cap, h.key, h.b1⟩
structure CarrRow (w : World) (a : Option Addr) (n : Nat) (l : List Carr) : Prop where
  cells : Cells w 3 a n (l.map Carr.cells)
  few : n ≤ 50
  each : ∀ i, i < l.length → CarrFine w (l.getD i noCarr)
theorem CarrRow.below {w w' : World} {a : Option Addr} {n : Nat} {l : List Carr} (h : CarrRow w a n l) (hb : Below w.heap.size w w') : CarrRow w' a n l := ⟨h.cells.below hb, h.few, fun i hi => (h.each i hi).below hb⟩
theorem CarrRow.len {w : World} {a : Option Addr} {n : Nat} {l : List Carr} (h : CarrRow w a n l) : n = l.length := by have := h.cells.len; simpa using this
theorem RateRow.at {w : World} {a : Option Addr} {n : Nat} {l : List Rate} (h : RateRow w a n l) (hn : 0 < n) : ∃ b off, a = some ⟨b, off, none⟩ ∧ b < w.heap.size ∧ ∀ i, i < n → w.cell? ⟨b, off + i * 3, none⟩ = some (.string ⟨(l.getD i noRate).p.toArray⟩) ∧ w.cell? ⟨b, off + i * 3 + 1, none⟩ = some (.int .i64 (l.getD i noRate).price) ∧ w.cell? ⟨b, off + i * 3 + 2, none⟩ = some (.bool (l.getD i noRate).closed) := by
  have hl := h.len
  rcases h.cells.row with h0 | ⟨b, off, ha, hb, hc⟩
  · omega
  · refine ⟨b, off, ha, hb, fun i hi => ?_⟩
    have k0 := hc i hi 0 (by omega)
    have k1 := hc i hi 1 (by omega)
    have k2 := hc i hi 2 (by omega)
    rw [getD_map Rate.cells l i noRate [] (by omega)] at k0 k1 k2
    exact ⟨k0, k1, k2⟩
theorem DeckRow.at {w : World} {a : Option Addr} {n : Nat} {l : List Deck} (h : DeckRow w a n l) (hn : 0 < n) : ∃ b off, a = some ⟨b, off, none⟩ ∧ b < w.heap.size ∧ ∀ i, i < n → w.cell? ⟨b, off + i * 5, none⟩ = some (.int .i64 (l.getD i noDeck).from_) ∧ w.cell? ⟨b, off + i * 5 + 1, none⟩ = some (.int .i64 (l.getD i noDeck).setup) ∧ w.cell? ⟨b, off + i * 5 + 2, none⟩ = some (.int .i64 (l.getD i noDeck).least) ∧ w.cell? ⟨b, off + i * 5 + 3, none⟩ = some (.int .i64 (l.getD i noDeck).step) ∧ w.cell? ⟨b, off + i * 5 + 4, none⟩ = some (.slice (l.getD i noDeck).ra (l.getD i noDeck).rn (l.getD i noDeck).rc) := by
  have hl := h.len
  rcases h.cells.row with h0 | ⟨b, off, ha, hb, hc⟩
  · omega
  · refine ⟨b, off, ha, hb, fun i hi => ?_⟩
    have k0 := hc i hi 0 (by omega)
    have k1 := hc i hi 1 (by omega)
    have k2 := hc i hi 2 (by omega)
    have k3 := hc i hi 3 (by omega)
    have k4 := hc i hi 4 (by omega)
    rw [getD_map Deck.cells l i noDeck [] (by omega)] at k0 k1 k2 k3 k4
    exact ⟨k0, k1, k2, k3, k4⟩
theorem CarrRow.at {w : World} {a : Option Addr} {n : Nat} {l : List Carr} (h : CarrRow w a n l) (hn : 0 < n) : ∃ b off, a = some ⟨b, off, none⟩ ∧ b < w.heap.size ∧ ∀ i, i < n → w.cell? ⟨b, off + i * 3, none⟩ = some (.string ⟨(l.getD i noCarr).key.toArray⟩) ∧ w.cell? ⟨b, off + i * 3 + 1, none⟩ = some (.int .i64 (l.getD i noCarr).lines) ∧ w.cell? ⟨b, off + i * 3 + 2, none⟩ = some (.slice (l.getD i noCarr).da (l.getD i noCarr).dn (l.getD i noCarr).dc) := by
  have hl := h.len
  rcases h.cells.row with h0 | ⟨b, off, ha, hb, hc⟩
  · omega
  · refine ⟨b, off, ha, hb, fun i hi => ?_⟩
    have k0 := hc i hi 0 (by omega)
    have k1 := hc i hi 1 (by omega)
    have k2 := hc i hi 2 (by omega)
    rw [getD_map Carr.cells l i noCarr [] (by omega)] at k0 k1 k2
    exact ⟨k0, k1, k2⟩
end Go.Proofs.YtacekbbndamkmaaGreatDoor

set_option linter.unusedVariables false
set_option linter.unusedSimpArgs false
namespace Go.Proofs.YtacekbbndamkmaaGreatDoor
open Go.RowKit

structure Shr where
  c : List UInt8
  part : Int
def noShr : Shr := ⟨[], 0⟩
def Shr.cells (s : Shr) : List Value := [.string ⟨s.c.toArray⟩, .int .i64 s.part]
def hasC (l : List Carr) (k : List UInt8) : Bool := l.any fun c => decide (c.key = k)
def shareErr (l : List Carr) (s : List Shr) (i : Nat) : Int :=
  if hasC l (s.getD i noShr).c = false then 8
  else if 0 < i ∧ Op.bytesLess (s.getD (i - 1) noShr).c (s.getD i noShr).c = false then 7
  else if inB (s.getD i noShr).part 1 1000 = false then 1
  else 0
def partSum (s : List Shr) : Nat → Int
  | 0 => 0
  | k + 1 => partSum s k + (s.getD k noShr).part
def sharesErr (l : List Carr) (s : List Shr) : Int :=
  if 50 < s.length then 2 else if firstErr (shareErr l s) s.length ≠ 0 then firstErr (shareErr l s) s.length else if partSum s s.length ≠ 1000 then 16 else 0
def sentErr (s : List Shr) (sent : List Int) : Int :=
  if s.length ≠ sent.length then 3 else if sent.any (fun n => !(inB n 0 1000000000000)) = true then 1 else 0
/-- The error of CheckShares; of Turn. -/
def shrE (l : List Carr) (s : List Shr) : Int := if carrsErr l ≠ 0 then carrsErr l else sharesErr l s
def turnE (l : List Carr) (s : List Shr) (sent : List Int) : Int :=
  if carrsErr l ≠ 0 then carrsErr l else if s.length ≠ 0 ∧ sharesErr l s ≠ 0 then sharesErr l s else sentErr s sent
def sumTo (l : List Int) : Nat → Int
  | 0 => 0
  | k + 1 => sumTo l k + l.getD k 0
def behind (s : List Shr) (sent : List Int) (i : Nat) : Int := (s.getD i noShr).part * (sumTo sent s.length + 1) - 1000 * sent.getD i 0
def turnTo (s : List Shr) (sent : List Int) : Nat → List UInt8 × Int
  | 0 => ([], 0)
  | k + 1 => if k = 0 ∨ (turnTo s sent k).2 < behind s sent k then ((s.getD k noShr).c, behind s sent k) else turnTo s sent k
def turnK (s : List Shr) (sent : List Int) : List UInt8 := (turnTo s sent s.length).1
theorem turn_some {s : List Shr} {sent : List Int} (h : ∀ i, i < s.length → (s.getD i noShr).c ≠ []) : ∀ k, k ≤ s.length → ((turnTo s sent k).1 = [] ↔ k = 0)
  | 0, _ => by simp [turnTo]
  | k + 1, hk => by
    have ih := turn_some (sent := sent) h k (by omega)
    unfold turnTo
    split
    · exact ⟨fun e => absurd e (h k (by omega)), fun e => by omega⟩
    · rename_i h1
      rw [ih]
      exact ⟨fun e => absurd (Or.inl e) h1, fun e => by omega⟩
theorem sum_bound {l : List Int} (h : ∀ i, i < l.length → 0 ≤ l.getD i 0 ∧ l.getD i 0 ≤ 1000000000000) : ∀ k, k ≤ l.length → 0 ≤ sumTo l k ∧ sumTo l k ≤ 1000000000000 * k
  | 0, _ => by simp [sumTo]
  | k + 1, hk => by
    have h1 := sum_bound h k (by omega)
    have h2 := h k (by omega)
    unfold sumTo
    omega

structure Rcd where
  id : List UInt8
  fr : List UInt8
  to_ : List UInt8
  at_ : Int
  ring : Int
  talk : Int
  how : Int
  carrier : List UInt8
def noRcd : Rcd := ⟨[], [], [], 0, 0, 0, 0, []⟩
def Rcd.cells (r : Rcd) : List Value := [.string ⟨r.id.toArray⟩, .string ⟨r.fr.toArray⟩, .string ⟨r.to_.toArray⟩, .int .i64 r.at_, .int .i64 r.ring, .int .i64 r.talk, .int .i64 r.how, .string ⟨r.carrier.toArray⟩]
def recErr (l : List Carr) (rs : List Rcd) (i : Nat) : Int :=
  if isMomB (rs.getD i noRcd).at_ = false ∨ inB (rs.getD i noRcd).talk 0 86400000 = false then 1
  else if inB (rs.getD i noRcd).how 1 4 = false then 4
  else if (rs.getD i noRcd).carrier ≠ [] ∧ hasC l (rs.getD i noRcd).carrier = false then 8
  else 0
def winErr (f t : Int) : Int := if 0 ≤ f ∧ f ≤ t ∧ t ≤ 345686400000 then 0 else 1
def recsErr (l : List Carr) (rs : List Rcd) (f t : Int) : Int :=
  if 3000 < rs.length then 2 else if firstErr (recErr l rs) rs.length ≠ 0 then firstErr (recErr l rs) rs.length else winErr f t
def measE (l : List Carr) (rs : List Rcd) (f t : Int) : Int := if carrsErr l ≠ 0 then carrsErr l else recsErr l rs f t
/-- Calls, good ones, and how long these were talked, of a carrier among the first records. -/
structure Cnt where
  calls : Int
  good : Int
  talk : Int
def inWin (key : List UInt8) (f t : Int) (r : Rcd) : Prop := r.carrier = key ∧ f ≤ r.at_ ∧ r.at_ < t
instance (key : List UInt8) (f t : Int) (r : Rcd) : Decidable (inWin key f t r) := by unfold inWin; exact inferInstance
def cntTo (rs : List Rcd) (key : List UInt8) (f t : Int) : Nat → Cnt
  | 0 => ⟨0, 0, 0⟩
  | k + 1 =>
    let c := cntTo rs key f t k
    let r := rs.getD k noRcd
    if inWin key f t r then (if r.how = 1 then ⟨c.calls + 1, c.good + 1, c.talk + r.talk⟩ else ⟨c.calls + 1, c.good, c.talk⟩) else c
theorem cnt_bound {rs : List Rcd} {key : List UInt8} {f t : Int} (h : ∀ i, i < rs.length → 0 ≤ (rs.getD i noRcd).talk ∧ (rs.getD i noRcd).talk ≤ 86400000) : ∀ k, k ≤ rs.length →
    0 ≤ (cntTo rs key f t k).good ∧ (cntTo rs key f t k).good ≤ (cntTo rs key f t k).calls ∧ (cntTo rs key f t k).calls ≤ k ∧ 0 ≤ (cntTo rs key f t k).talk ∧ (cntTo rs key f t k).talk ≤ 86400000 * (cntTo rs key f t k).good
  | 0, _ => by simp [cntTo]
  | k + 1, hk => by
    have h1 := cnt_bound (key := key) (f := f) (t := t) h k (by omega)
    have h2 := h k (by omega)
    unfold cntTo
    simp only
    split
    · split
      · simp only; omega
      · simp only; omega
    · omega
structure Qual where
  c : List UInt8
  calls : Int
  good : Int
  num : Int
  den : Int
def Qual.cells (q : Qual) : List Value := [.string ⟨q.c.toArray⟩, .int .i64 q.calls, .int .i64 q.good, .int .i64 q.num, .int .i64 q.den]
/-- A fraction in lowest terms (b above 0). -/
def lowF (a b : Int) : Int × Int := (((a.toNat / Nat.gcd a.toNat b.toNat : Nat) : Int), ((b.toNat / Nat.gcd a.toNat b.toNat : Nat) : Int))
def qual (rs : List Rcd) (key : List UInt8) (f t : Int) : Option Qual :=
  let c := cntTo rs key f t rs.length
  if c.calls = 0 then none else some ⟨key, c.calls, 1000 * c.good / c.calls, (lowF c.talk (max c.good 1)).1, (lowF c.talk (max c.good 1)).2⟩
def quals (l : List Carr) (rs : List Rcd) (f t : Int) (k : Nat) : List Qual := (List.range k).filterMap fun i => qual rs (l.getD i noCarr).key f t
theorem quals_succ (l : List Carr) (rs : List Rcd) (f t : Int) (k : Nat) : quals l rs f t (k + 1) = quals l rs f t k ++ (qual rs (l.getD k noCarr).key f t).toList := by
  unfold quals
  rw [List.range_succ, List.filterMap_append]
  congr 1
end Go.Proofs.YtacekbbndamkmaaGreatDoor
