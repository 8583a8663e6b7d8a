/- What is proved here: what a stream of numbers hands out lies in the range that is asked for. No condition. -/
import Derived.Test.YtbimecknmojnoaaGreatDoorBase
namespace Go.Proofs.YtbimecknmojnoaaGreatDoor
open Go.RowKit

def belowI (x n : Int) : Int := if n < 1 then 0 else if x.tmod n < 0 then x.tmod n + n else x.tmod n

theorem belowI_range (x n : Int) (h : 1 ≤ n) : 0 ≤ belowI x n ∧ belowI x n ≤ n - 1 := by
  unfold belowI
  rw [if_neg (by omega)]
  have h1 := Int.tmod_lt_of_pos x (show 0 < n by omega)
  have h2 : -n < x.tmod n := Int.lt_tmod_of_pos x (by omega)
  split <;> omega

theorem below_any (x n : Int) (w : World) (h : 1 ≤ n) (hn : n ≤ 9223372036854775807) :
    Calls Tryz.prog 149 #[.int .i64 x, .int .i64 n] w fun e w' => e = .returned (.int .i64 (belowI x n)) ∧ w = w' := by
  have h1 := Int.tmod_lt_of_pos x (show 0 < n by omega)
  have h2 : -n < x.tmod n := Int.lt_tmod_of_pos x (by omega)
  have hlt : ¬ n < 1 := by omega
  by_cases hx : x.tmod n < 0
  · have hb : Hid (belowI x n = x.tmod n + n) := Lib.hid (by unfold belowI; rw [if_neg hlt, if_pos hx])
    go_enter Tryz.func149, Tryz.ntmps149
    go_wp2
    go_ret
    exact ⟨ret_int hb.out.symm, rfl⟩
  · have hb : Hid (belowI x n = x.tmod n) := Lib.hid (by unfold belowI; rw [if_neg hlt, if_neg hx])
    go_enter Tryz.func149, Tryz.ntmps149
    go_wp2
    go_ret
    exact ⟨ret_int hb.out.symm, rfl⟩

theorem stream_set {w w' : World} {S k : Nat} {a : Option Addr} {len cap : Nat} {zs : List Int} {n : Nat} (hn : n ≤ k) (hs : S < w.heap.size)
    (h0 : w.cell? ⟨S, 0, none⟩ = some (.slice a len cap)) (h1 : w.cell? ⟨S, 1, none⟩ = some (.int .i64 n)) (hf : w.frozen? ⟨S, 1, none⟩ = false) (hr : IntRow w S a len cap zs)
    (v : Value) (hv : v = .int .i64 ((n : Int) + 1)) (m : Nat) (hw : w' = (w.setCell ⟨S, 1, none⟩ v).drewN m) : StreamOk w' S (k + 1) ∧ Keeps S w w' := by
  subst hv
  have kp : Keeps S w (w.setCell ⟨S, 1, none⟩ (.int .i64 ((n : Int) + 1))) := (Keeps.refl S w).setCell rfl _
  have kp' : Keeps S w w' := by rw [hw]; exact kp.drewN m
  refine ⟨⟨a, len, cap, zs, n + 1, by omega, Nat.lt_of_lt_of_le hs kp'.size, ?_, ?_, ?_, hr.kept (kp'.below (Nat.le_of_lt hs) (Nat.le_refl _))⟩, kp'⟩
  · rw [hw]; simpa using (World.cell?_setCell_other _ _ _ _ (by simp)).trans h0
  · rw [hw]; simpa using World.cell?_setCell_same _ _ _ h1
  · rw [hw]; simpa using hf

set_option maxHeartbeats 1000000 in
theorem next_any (S k : Nat) (n : Int) (w : World) (h : StreamOk w S k) (hk : k ≤ 1000000000) (h1 : 1 ≤ n) (h2 : n ≤ 9223372036854775807) :
    Calls Tryz.prog 70 #[.pointer (some ⟨S, 0, none⟩), .int .i64 n] w (NextPost S (k + 1) 0 (n - 1) w) := by
  obtain ⟨a, len, cap, zs, m, hm, hs, c0, c1, cf, hr⟩ := h
  have fin := fun (x : Int) (w' : World) (v : Value) (hv : v = .int .i64 ((m : Int) + 1)) (j : Nat) (hw : w' = (w.setCell ⟨S, 1, none⟩ v).drewN j) =>
    show NextPost S (k + 1) 0 (n - 1) w (.returned (.int .i64 (belowI x n))) w' from
    ⟨_, rfl, (belowI_range x n h1).1, (belowI_range x n h1).2, stream_set hm hs c0 c1 cf hr v hv j hw⟩
  have Fin := Lib.hid fin
  clear fin
  rcases hr with hl | ⟨b, off, ha, hb, hlc, hcm, hz, hc⟩
  · subst hl
    go_enter Tryz.func70, Tryz.ntmps70
    go_wp2_with (go_at_call 149; refine (below_any _ _ _ h1 h2).mono ?_; rintro e w' ⟨rfl, rfl⟩)
    go_ret
    exact Fin.out _ _ _ rfl 0 rfl
  · subst ha
    unfold maxLen at hcm
    by_cases hl : len = 0
    · subst hl
      go_enter Tryz.func70, Tryz.ntmps70
      go_wp2_with (go_at_call 149; refine (below_any _ _ _ h1 h2).mono ?_; rintro e w' ⟨rfl, rfl⟩)
      go_ret
      exact Fin.out _ _ _ rfl 0 rfl
    · have hl0 : ((len : Int) == 0) = false := by simp; omega
      have hmod : m % len < len := Nat.mod_lt _ (by omega)
      have hcell := hc (m % len) hmod
      have hbm : b ≠ S := by omega
      clear hc
      go_enter Tryz.func70, Tryz.ntmps70
      go_wp2_with fail
      go_quiet (fail)
      go_wp2_with fail
      go_quiet (fail)
      go_wp2_with fail
      refine (below_any _ _ _ (by omega) (by omega)).mono ?_
      rintro e w' ⟨rfl, rfl⟩
      go_wp2_with fail
      refine (below_any _ _ _ h1 h2).mono ?_
      rintro e w' ⟨rfl, rfl⟩
      go_wp2_with fail
      go_ret
      exact Fin.out _ _ _ rfl _ rfl

/-- A statement's end: nothing that was there before has turned. -/
theorem law_end {w w9 : World} {o : Obj} (hk : Keeps w.heap.size (w.alloc o) w9) : Below w.heap.size w w9 :=
  ((Below.refl _ w).alloc (Nat.le_refl _) o).trans (hk.below (B := w.heap.size) (by simp) (Nat.le_refl _))

/-- The slice that came in. -/
def ArgRow (w : World) (a : Option Addr) (len cap : Nat) (zs : List Int) : Prop :=
  len = 0 ∨ ∃ b off, a = some ⟨b, off, none⟩ ∧ b < w.heap.size ∧ len ≤ cap ∧ cap ≤ maxLen ∧ len ≤ zs.length ∧ ∀ i, i < len → w.cell? ⟨b, off + i, none⟩ = some (.int .i64 (zs.getD i 0))

theorem argRow_of {w : World} {x : Addr} {len cap : Nat} {zs : List Int} (h1 : len ≤ cap) (h2 : cap ≤ maxLen) (h3 : zs.length = cap) (hc : ∀ i, i < zs.length → w.cell? (x.add i) = some (.int .i64 (zs.getD i 0))) : ArgRow w (some x) len cap zs := by
  by_cases h0 : len = 0
  · exact Or.inl h0
  · obtain ⟨b, off, spot⟩ := x
    have hc0 := hc 0 (by omega)
    have hspot : spot = none := by simpa [Addr.add] using World.cell?_spot hc0
    subst hspot
    refine Or.inr ⟨b, off, rfl, ?_, h1, h2, by omega, fun i hi => ?_⟩
    · rcases Nat.lt_or_ge b w.heap.size with h | h
      · exact h
      · simp [World.cell?, Addr.add, Array.getElem?_eq_none h] at hc0
    · have := hc i (by omega)
      have hp : (⟨b, off, none⟩ : Addr).add i = ⟨b, off + i, none⟩ := by unfold Addr.add; split <;> simp_all
      rwa [hp] at this

/-- The stream that a statement begins with. -/
theorem stream_start {w : World} {a : Option Addr} {len cap : Nat} {zs : List Int} (h : len = 0 ∨ ∃ b off, a = some ⟨b, off, none⟩ ∧ b < w.heap.size ∧ len ≤ cap ∧ cap ≤ maxLen ∧ len ≤ zs.length ∧ ∀ i, i < len → w.cell? ⟨b, off + i, none⟩ = some (.int .i64 (zs.getD i 0))) :
    StreamOk (w.alloc (.cells #[.slice a len cap, .int .i64 0] 25)) w.heap.size 0 := by
  refine ⟨a, len, cap, zs, 0, Nat.le_refl _, by simp, by simp, by simp, by simp, ?_⟩
  refine h.imp id ?_
  rintro ⟨b, off, ha, hb, h1, h2, h3, hc⟩
  refine ⟨b, off, ha, hb, h1, h2, h3, fun i hi => ?_⟩
  rw [World.cell?_alloc_lt _ _ _ (by show b < _; omega)]
  exact hc i hi

theorem range_any (S k : Nat) (lo hi : Int) (w : World) (h : StreamOk w S k) (hk : k ≤ 1000000000) (h1 : lo ≤ hi) (h2 : -4611686018427387904 ≤ lo) (h3 : hi ≤ 4611686018427387000) :
    Calls Tryz.prog 17 #[.pointer (some ⟨S, 0, none⟩), .int .i64 lo, .int .i64 hi] w (NextPost S (k + 1) lo hi w) := by
  have hlt : ¬ hi < lo := by omega
  go_enter Tryz.func17, Tryz.ntmps17
  go_wp2_with fail
  refine (next_any S k _ _ h hk (by omega) (by omega)).mono ?_
  rintro e w' ⟨r, rfl, r0, r1, hst, hkp⟩
  go_wp2_with fail
  go_ret
  exact ⟨lo + r, rfl, by omega, by omega, hst, hkp⟩

def FlipPost (S k : Nat) (w : World) (e : Ending) (w' : World) : Prop :=
  ∃ r : Bool, e = .returned (.bool r) ∧ StreamOk w' S k ∧ Keeps S w w'

theorem flip_any (S k : Nat) (n : Int) (w : World) (h : StreamOk w S k) (hk : k ≤ 1000000000) (h1 : 1 ≤ n) (h2 : n ≤ 9223372036854775807) :
    Calls Tryz.prog 21 #[.pointer (some ⟨S, 0, none⟩), .int .i64 n] w (FlipPost S (k + 1) w) := by
  go_enter Tryz.func21, Tryz.ntmps21
  go_wp2_with fail
  refine (next_any S k _ _ h hk h1 h2).mono ?_
  rintro e w' ⟨r, rfl, r0, r1, hst, hkp⟩
  go_wp2_with fail
  go_ret
  exact ⟨_, rfl, hst, hkp⟩
end Go.Proofs.YtbimecknmojnoaaGreatDoor
