/- What is proved here: what a stream hands out for plans of numbers: rows of digits, odd numbers, right plans. Condition: the stream lies in memory as stated. -/
import Derived.Test.YthajppcmmmkfcaaGreatDoorPlanMath
import Derived.Test.YthajppcmmmkfcaaGreatDoorPlanCheck
import Derived.Test.YthajppcmmmkfcaaGreatDoorPicks
import Derived.Test.YthajppcmmmkfcaaGreatDoorPlanBuild
set_option linter.unusedVariables false
set_option linter.unusedSimpArgs false
namespace Go.Proofs.YthajppcmmmkfcaaGreatDoor
open Go.RowKit

theorem range_gen (S k : Nat) (lo hi : Int) (w : World) (h : StreamOk w S k) (hk : k ≤ 1000000000) (h2 : -4611686018427387904 ≤ lo) (h3 : hi ≤ 4611686018427387000) :
    Calls Tryz.prog 45 #[.pointer (some ⟨S, 0, none⟩), .int .i64 lo, .int .i64 hi] w (PickPost S (k + 1) (fun r => lo ≤ r ∧ (r ≤ lo ∨ r ≤ hi)) w) := by
  by_cases hlt : hi < lo
  · have HS := Lib.hid (h.mono (Nat.le_succ _))
    clear h
    go_enter Tryz.func45, Tryz.ntmps45
    go_wp2_with fail
    go_ret
    exact ⟨lo, rfl, ⟨Int.le_refl _, Or.inl (Int.le_refl _)⟩, HS.out, Keeps.refl _ _⟩
  · refine (range_any S k lo hi w h hk (by omega) h2 h3).mono ?_
    rintro e w' ⟨r, rfl, r0, r1, hst, hkp⟩
    exact ⟨r, rfl, ⟨r0, Or.inr r1⟩, hst, hkp⟩

set_option maxRecDepth 100000 in
theorem odd_any (S k : Nat) (lo hi : Int) (w : World) (h : StreamOk w S k) (hk : k ≤ 100000000) (h0 : 0 ≤ lo) (h1 : lo ≤ hi) (h2 : hi ≤ 1000) :
    Calls Tryz.prog 42 #[.pointer (some ⟨S, 0, none⟩), .int .i64 lo, .int .i64 hi] w (PickPost S (k + 2) (fun r => -1099511627776 ≤ r ∧ r ≤ 1099511627776) w) := by
  have HS := Lib.hid h
  have hlt := h.lt
  clear h
  go_enter Tryz.func42, Tryz.ntmps42
  go_wp2_with fail
  refine (flip_any S k 12 _ HS.out (by omega) (by decide) (by decide)).mono ?_
  rintro e w1 ⟨r, rfl, hst, hkp⟩
  have HS1 := Lib.hid hst
  have HK1 := Lib.hid hkp
  have hl1 := hst.lt
  clear hst hkp
  cases r
  · go_wp2_with fail
    refine (range_any S (k + 1) lo hi _ HS1.out (by omega) h1 (by omega) (by omega)).mono ?_
    rintro e w2 ⟨r, rfl, r0, r1, hst2, hkp2⟩
    have HK2 := Lib.hid (HK1.out.trans hkp2)
    have HS2 := Lib.hid hst2
    clear hst2 hkp2
    go_wp2_with fail
    go_ret
    exact ⟨r, rfl, ⟨by omega, by omega⟩, HS2.out, HK2.out⟩
  · go_wp2_with fail
    refine (pick_any S (k + 1) w1.heap.size 6 6 [lo - 1, hi + 1, lo, hi, -1099511627776, 1099511627776] (fun r => -1099511627776 ≤ r ∧ r ≤ 1099511627776) _ (HS1.out.below (ext_alloc (Below.refl _ _))) (by omega) (by simp) (by omega) (by omega) (by omega) (fun i h9 => by match i, h9 with | 0, _ | 1, _ | 2, _ | 3, _ | 4, _ | 5, _ => go_simp) (fun i h9 => by match i, h9 with | 0, _ => exact ⟨by show _ ≤ lo - 1; omega, by show lo - 1 ≤ _; omega⟩ | 1, _ => exact ⟨by show _ ≤ hi + 1; omega, by show hi + 1 ≤ _; omega⟩ | 2, _ => exact ⟨by show _ ≤ lo; omega, by show lo ≤ _; omega⟩ | 3, _ => exact ⟨by show _ ≤ hi; omega, by show hi ≤ _; omega⟩ | 4, _ => exact ⟨by show (-1099511627776 : Int) ≤ -1099511627776; decide, by show (-1099511627776 : Int) ≤ 1099511627776; decide⟩ | 5, _ => exact ⟨by show (-1099511627776 : Int) ≤ 1099511627776; decide, by show (1099511627776 : Int) ≤ 1099511627776; decide⟩)).mono ?_
    rintro e w2 ⟨r, rfl, hr, hst2, hkp2⟩
    have HK2 := Lib.hid ((HK1.out.alloc _).trans hkp2)
    have HS2 := Lib.hid hst2
    have HR := Lib.hid hr
    clear hst2 hkp2 hr
    go_wp2_with fail
    go_ret
    exact ⟨r, rfl, HR.out, HS2.out, HK2.out⟩

set_option maxRecDepth 100000 in
theorem digitRow_any (S k n : Nat) (w : World) (h : StreamOk w S k) (hk : k ≤ 100000000) (hn : n ≤ 1000) :
    Calls Tryz.prog 62 #[.pointer (some ⟨S, 0, none⟩), .int .i64 n] w (SomePost S (k + 1000) (fun r => r.length ≤ n) w) := by
  have HS := Lib.hid h
  clear h
  go_enter Tryz.func62, Tryz.ntmps62
  go_wp2_with fail
  go_loopw [5, 7] (fun v it wr => ∃ (j : Nat) (x : List UInt8), j ≤ n ∧ x.length ≤ j ∧ v = .string ⟨x.toArray⟩ ∧ it = .int .i64 j ∧ Hid (StreamOk wr S (k + j)) ∧ Hid (Keeps S w wr)) (fun _ it _ => n - (intOf it).toNat)
  case atStart => exact ⟨0, [], Nat.zero_le _, Nat.le_refl _, rfl, rfl, HS, Keeps.refl _ _⟩
  case round =>
    obtain ⟨j, x, hj, hx, rfl, rfl, HO, HK⟩ := hrel
    by_cases hlt : j < n
    · have hl := HO.out.lt
      go_wp2_with fail
      refine (some_any S (k + j) wr.heap.size 7 7 [[48], [49], [50], [51], [48], [57], [53]] (fun r => r.length ≤ 1) _ (HO.out.below (ext_alloc (Below.refl _ _))) (by omega) (by simp) (by omega) (by omega) (by omega) (fun i hi => by match i, hi with | 0, _ | 1, _ | 2, _ | 3, _ | 4, _ | 5, _ | 6, _ => go_simp) (fun i hi => by match i, hi with | 0, _ | 1, _ | 2, _ | 3, _ | 4, _ | 5, _ | 6, _ => decide)).mono ?_
      rintro e w2 ⟨r, rfl, hr, hst2, hkp2⟩
      have HK2 := Lib.hid ((HK.out.alloc _).trans hkp2)
      have HS2 := Lib.hid hst2
      clear hst2 hkp2
      go_wp2_with fail
      go_roundw
      case rel => exact ⟨j + 1, x ++ r, by omega, by rw [List.length_append]; omega, by rw [cat_str], by go_num, HS2.out, HK2.out⟩
      case measure => simp [intOf]; omega
    · have hf : Hid (x.length ≤ n) := by show _ ≤ _; omega
      have HS2 := Lib.hid (HO.out.mono (show k + j ≤ k + 1000 by omega))
      go_wp2_with fail
      go_ret
      exact ⟨x, rfl, hf.out, HS2.out, HK.out⟩

/-! ### Plans in memory that may be written -/
/-- Country i of a plan in block P, with its areas in a block of their own. -/
structure CtryAt (S P : Nat) (base : Nat) (w : World) (i : Nat) (c : Ctry) (b : Nat) : Prop where
  cells : ∀ j, j < 4 → w.cell? ⟨P, i * 4 + j, none⟩ = c.cells[j]?
  fine : CtryFine w c
  some : 1 ≤ c.an
  at_ : c.aa = Option.some ⟨b, 0, none⟩
  off : b ≠ S
  offP : b ≠ P
  lt : b < w.heap.size
  new : base ≤ b
  fro : ∀ j, w.frozen? ⟨b, j, none⟩ = false
structure PlanAt (S P : Nat) (base : Nat) (w : World) (l : List Ctry) (bs : List Nat) : Prop where
  len : l.length = 3
  each : ∀ i, i < 3 → CtryAt S P base w i (l.getD i noCtry) (bs.getD i 0)
  offS : P ≠ S
  lt : P < w.heap.size
  new : base ≤ P
  fro : ∀ j, w.frozen? ⟨P, j, none⟩ = false

def areaCells (l : List Area) : List Value := l.flatMap Area.cells
/-- The areas lie in blocks of the call's own, each alone. -/
structure PlanOwn (base : Nat) (w : World) (l : List Ctry) (bs : List Nat) : Prop where
  own : ∀ i, i < 3 → w.ownsRow base 72 3 (.slice (some ⟨bs.getD i 0, 0, none⟩) (l.getD i noCtry).an (l.getD i noCtry).an) (l.getD i noCtry).an (areaCells (l.getD i noCtry).areas)
  alone : ∀ i j, i < 3 → j < 3 → i ≠ j → bs.getD i 0 ≠ bs.getD j 0
  cap : ∀ i, i < 3 → (l.getD i noCtry).ac = (l.getD i noCtry).an
  few : ∀ i, i < 3 → (l.getD i noCtry).an ≤ 3
theorem PlanOwn.keeps {S base : Nat} {w w' : World} {l : List Ctry} {bs : List Nat} (h : PlanOwn base w l bs) (hS : S < base) (hk : Keeps S w w') : PlanOwn base w' l bs :=
  ⟨fun i hi => own_keeps (h.own i hi) hk hS, h.alone, h.cap, h.few⟩

/-- A plan that a stream has handed out. -/
def PlanPost (S k : Nat) (w : World) (e : Ending) (w' : World) : Prop :=
  ∃ (P : Nat) (l : List Ctry), e = .returned (.slice (some ⟨P, 0, none⟩) 3 3) ∧ (∀ w9, Keeps S w' w9 → CtryRow w9 (some ⟨P, 0, none⟩) 3 l) ∧ (∀ i, i < l.length → 1 ≤ (l.getD i noCtry).an) ∧ StreamOk w' S k ∧ Keeps S w w'

theorem AreaRow.keeps {S : Nat} {w w' : World} {b n : Nat} {l : List Area} (h : AreaRow w (some ⟨b, 0, none⟩) n l) (hb : b ≠ S) (hk : Keeps S w w') : AreaRow w' (some ⟨b, 0, none⟩) n l := by
  refine ⟨h.len, h.row.imp id ?_⟩
  rintro ⟨b9, off, ha, hl, hc⟩
  injection ha with ha
  injection ha with e1 e2
  subst e1 e2
  exact ⟨b, 0, rfl, Nat.lt_of_lt_of_le hl hk.size, fun i hi j hj => (hk.cell (p := ⟨b, 0 + i * 3 + j, none⟩) hl hb).trans (hc i hi j hj)⟩
theorem CtryAt.keeps {S P base : Nat} {w w' : World} {i : Nat} {c : Ctry} {b : Nat} (h : CtryAt S P base w i c b) (hP : P < w.heap.size) (hS : P ≠ S) (hk : Keeps S w w') : CtryAt S P base w' i c b :=
  ⟨fun j hj => (hk.cell (p := ⟨P, i * 4 + j, none⟩) hP hS).trans (h.cells j hj), ⟨h.fine.code, h.fine.abroad, h.fine.trunk, h.fine.many, by have := h.fine.row; rw [h.at_] at this ⊢; exact this.keeps h.off hk, h.fine.each⟩, h.some, h.at_, h.off, h.offP, Nat.lt_of_lt_of_le h.lt hk.size, h.new, fun j => (hk.frozen (p := ⟨b, j, none⟩) h.lt h.off).trans (h.fro j)⟩
theorem PlanAt.keeps {S P base : Nat} {w w' : World} {l : List Ctry} {bs : List Nat} (h : PlanAt S P base w l bs) (hk : Keeps S w w') : PlanAt S P base w' l bs :=
  ⟨h.len, fun i hi => (h.each i hi).keeps h.lt h.offS hk, h.offS, Nat.lt_of_lt_of_le h.lt hk.size, h.new, fun j => (hk.frozen (p := ⟨P, j, none⟩) h.lt h.offS).trans (h.fro j)⟩
theorem PlanAt.row {S P base : Nat} {w : World} {l : List Ctry} {bs : List Nat} (h : PlanAt S P base w l bs) : CtryRow w (some ⟨P, 0, none⟩) 3 l :=
  ⟨h.len.symm, by omega, Or.inr ⟨P, 0, rfl, h.lt, fun i hi j hj => by rw [Nat.zero_add]; exact (h.each i hi).cells j hj⟩, fun i hi => (h.each i (by rw [h.len] at hi; exact hi)).fine⟩
theorem PlanAt.post {S P k : Nat} {w w' : World} {l : List Ctry} {bs : List Nat} {base : Nat} (h : PlanAt S P base w' l bs) (hs : StreamOk w' S k) (hk : Keeps S w w') : PlanPost S k w (.returned (.slice (some ⟨P, 0, none⟩) 3 3)) w' :=
  ⟨P, l, rfl, fun w9 h9 => (h.keeps h9).row, fun i hi => (h.each i (by rw [h.len] at hi; exact hi)).some, hs, hk⟩

/-- One area, written out. -/
def ar (p : List UInt8) (lo hi : Int) : Area := ⟨p, lo, hi⟩
theorem area_row2 {w : World} {b : Nat} {x y : Area} (hb : b < w.heap.size) (h : ∀ j v, ((x.cells ++ y.cells) : List Value)[j]? = some v → w.cell? ⟨b, j, none⟩ = some v) : AreaRow w (some ⟨b, 0, none⟩) 2 [x, y] := by
  refine ⟨rfl, Or.inr ⟨b, 0, rfl, hb, fun i hi j hj => ?_⟩⟩
  match i, hi, j, hj with
  | 0, _, 0, _ => exact h 0 _ rfl
  | 0, _, 1, _ => exact h 1 _ rfl
  | 0, _, 2, _ => exact h 2 _ rfl
  | 1, _, 0, _ => exact h 3 _ rfl
  | 1, _, 1, _ => exact h 4 _ rfl
  | 1, _, 2, _ => exact h 5 _ rfl
theorem area_row3 {w : World} {b : Nat} {x y z : Area} (hb : b < w.heap.size) (h : ∀ j v, ((x.cells ++ y.cells ++ z.cells) : List Value)[j]? = some v → w.cell? ⟨b, j, none⟩ = some v) : AreaRow w (some ⟨b, 0, none⟩) 3 [x, y, z] := by
  refine ⟨rfl, Or.inr ⟨b, 0, rfl, hb, fun i hi j hj => ?_⟩⟩
  match i, hi, j, hj with
  | 0, _, 0, _ => exact h 0 _ rfl
  | 0, _, 1, _ => exact h 1 _ rfl
  | 0, _, 2, _ => exact h 2 _ rfl
  | 1, _, 0, _ => exact h 3 _ rfl
  | 1, _, 1, _ => exact h 4 _ rfl
  | 1, _, 2, _ => exact h 5 _ rfl
  | 2, _, 0, _ => exact h 6 _ rfl
  | 2, _, 1, _ => exact h 7 _ rfl
  | 2, _, 2, _ => exact h 8 _ rfl

theorem heap_new (w : World) (o : Obj) : (w.alloc o).heap[w.heap.size]? = some o := by unfold World.alloc; simp
theorem block_cell {w : World} {b : Nat} {cs : Array Value} {t : TypeId} (h : w.heap[b]? = some (.cells cs t)) (j : Nat) : w.cell? ⟨b, j, none⟩ = cs[j]? := by simp [World.cell?, h]
theorem block_fro {w : World} {b : Nat} {cs : Array Value} {t : TypeId} (h : w.heap[b]? = some (.cells cs t)) (j : Nat) : w.frozen? ⟨b, j, none⟩ = false := by simp [World.frozen?, h]

set_option maxRecDepth 100000 in
set_option maxHeartbeats 2000000 in
theorem rightCountries_any (S k : Nat) (w : World) (h : StreamOk w S k) (hk : k ≤ 100000000) :
    Calls Tryz.prog 38 #[.pointer (some ⟨S, 0, none⟩)] w fun e w' => ∃ (P : Nat) (l : List Ctry) (bs : List Nat), e = .returned (.slice (some ⟨P, 0, none⟩) 3 3) ∧ PlanAt S P w.heap.size w' l bs ∧ StreamOk w' S (k + 2) ∧ Keeps S w w' ∧ PlanOwn w.heap.size w' l bs := by
  have HS := Lib.hid h
  have hlt := h.lt
  clear h
  go_enter Tryz.func38, Tryz.ntmps38
  go_wp2_with fail
  refine (some_any S k w.heap.size 3 3 [[49], [49], []] (fun r => r.length ≤ 100) _ (HS.out.below (ext_alloc (Below.refl _ _))) (by omega) (by simp) (by omega) (by omega) (by omega) (fun i hi => by match i, hi with | 0, _ | 1, _ | 2, _ => go_simp) (fun i hi => by match i, hi with | 0, _ | 1, _ | 2, _ => decide)).mono ?_
  rintro e w1 ⟨t1, rfl, hr1, hst1, hkp1⟩
  have HK1 := Lib.hid (((Keeps.refl S w).alloc _).trans hkp1)
  have hlt1 := hst1.lt
  have HS1 := Lib.hid hst1
  have HZ1 : Hid (w.heap.size ≤ w1.heap.size) := HK1.out.size
  clear hst1 hkp1
  as_aux_lemma =>
    go_wp2_with (first | (refine wpList_val rfl (bs_area2 _ _ _ 6 7 rfl _ _ _ _ _ _ rfl rfl) ?_) | (refine wpList_val rfl (bs_area3 _ _ _ 10 11 12 rfl _ _ _ _ _ _ _ _ _ rfl rfl rfl) ?_))
    refine (some_any S (k + 1) (w1.heap.size + 1 + 1) 2 2 [[48, 48], [48]] (fun r => r.length ≤ 100) _ (HS1.out.below (ext_alloc (ext_alloc (ext_alloc (Below.refl _ _))))) (by omega) (by simp) (by omega) (by omega) (by omega) (fun i hi => by match i, hi with | 0, _ | 1, _ => go_simp) (fun i hi => by match i, hi with | 0, _ | 1, _ => decide)).mono ?_
    rintro e w2 ⟨t2, rfl, hr2, hst2, hkp2⟩
    have HK2 := Lib.hid ((((HK1.out.alloc _).alloc _).alloc _).trans hkp2)
    have hz2 : w1.heap.size + 3 ≤ w2.heap.size := by have := hkp2.size; simp at this; omega
    have HA0 : Hid (w2.heap[w1.heap.size]? = some (.cells #[.string ⟨#[50, 48]⟩, .int .i64 3, .int .i64 5, .string ⟨#[57]⟩, .int .i64 4, .int .i64 4] 72)) := (hkp2.block _ (by simp; omega) (by omega)).trans ((Below.heap_alloc _ _ _ (by simp; omega)).trans ((Below.heap_alloc _ _ _ (by simp)).trans (heap_new _ _)))
    have HA1 : Hid (w2.heap[w1.heap.size + 1]? = some (.cells #[.string ⟨#[51, 48]⟩, .int .i64 3, .int .i64 7, .string ⟨#[52]⟩, .int .i64 3, .int .i64 6, .string ⟨#[56, 57]⟩, .int .i64 5, .int .i64 5] 72)) := (hkp2.block _ (by simp) (by omega)).trans ((Below.heap_alloc _ _ _ (by simp)).trans ((show w1.heap.size + 1 = (w1.alloc _).heap.size by simp) ▸ heap_new _ _))
    have HS2 := Lib.hid hst2
    have hlt2 := hst2.lt
    clear hst2 hkp2
    as_aux_lemma =>
      go_wp2_with (first | (refine wpList_val rfl (bs_area2 _ _ _ 18 19 rfl _ _ _ _ _ _ rfl rfl) ?_) | (refine wpList_val rfl (bs_ctry3 _ _ _ 9 14 21 rfl _ _ _ _ _ _ _ _ _ _ _ _ _ _ _ _ _ _ rfl rfl rfl) ?_))
      go_ret
      have hP : (w2.alloc (.cells #[.string ⟨#[49]⟩, .int .i64 2, .int .i64 4, .string ⟨#[50]⟩, .int .i64 5, .int .i64 13] 72)).heap.size = w2.heap.size + 1 := by simp
      refine ⟨w2.heap.size + 1, [⟨[49], [48, 49, 49], t1, some ⟨w1.heap.size, 0, none⟩, 2, 2, [⟨[50, 48], 3, 5⟩, ⟨[57], 4, 4⟩]⟩, ⟨[52, 57], [48, 48], [48], some ⟨w1.heap.size + 1, 0, none⟩, 3, 3, [⟨[51, 48], 3, 7⟩, ⟨[52], 3, 6⟩, ⟨[56, 57], 5, 5⟩]⟩, ⟨[53, 53], t2, [], some ⟨w2.heap.size, 0, none⟩, 2, 2, [⟨[49], 2, 4⟩, ⟨[50], 5, 13⟩]⟩], [w1.heap.size, w1.heap.size + 1, w2.heap.size], rfl, ?_, HS2.out.below (ext_alloc (ext_alloc (Below.refl _ _))), (HK2.out.alloc _).alloc _, ?_⟩
      · skip
        generalize hW9 : (World.alloc (w2.alloc _) _) = W9
        have HP9 : W9.heap[w2.heap.size + 1]? = some (.cells #[.string ⟨#[49]⟩, .string ⟨#[48, 49, 49]⟩, .string ⟨t1.toArray⟩, .slice (some ⟨w1.heap.size, 0, none⟩) 2 2, .string ⟨#[52, 57]⟩, .string ⟨#[48, 48]⟩, .string ⟨#[48]⟩, .slice (some ⟨w1.heap.size + 1, 0, none⟩) 3 3, .string ⟨#[53, 53]⟩, .string ⟨t2.toArray⟩, .string ⟨#[]⟩, .slice (some ⟨w2.heap.size, 0, none⟩) 2 2] 68) := by rw [← hW9, ← hP]; exact heap_new _ _
        have HA0' := (show W9.heap[w1.heap.size]? = _ by rw [← hW9]; exact (Below.heap_alloc _ _ _ (by simp; omega)).trans (Below.heap_alloc _ _ _ (by omega))).trans HA0.out
        have HA1' := (show W9.heap[w1.heap.size + 1]? = _ by rw [← hW9]; exact (Below.heap_alloc _ _ _ (by simp; omega)).trans (Below.heap_alloc _ _ _ (by omega))).trans HA1.out
        have HA2' : W9.heap[w2.heap.size]? = some (.cells #[.string ⟨#[49]⟩, .int .i64 2, .int .i64 4, .string ⟨#[50]⟩, .int .i64 5, .int .i64 13] 72) := by rw [← hW9]; exact (Below.heap_alloc _ _ _ (by simp)).trans (heap_new _ _)
        have hz9 : W9.heap.size = w2.heap.size + 2 := by rw [← hW9]; simp
        have hzw := HZ1.out
        clear hW9
        refine ⟨rfl, fun i hi => ?_, by omega, by omega, by omega, block_fro HP9⟩
        match i, hi with
        | 0, _ =>
          show CtryAt S (w2.heap.size + 1) w.heap.size W9 0 ⟨[49], [48, 49, 49], t1, some ⟨w1.heap.size, 0, none⟩, 2, 2, [⟨[50, 48], 3, 5⟩, ⟨[57], 4, 4⟩]⟩ w1.heap.size
          exact ⟨fun j hj => by match j, hj with | 0, _ => exact block_cell HP9 0 | 1, _ => exact block_cell HP9 1 | 2, _ => exact block_cell HP9 2 | 3, _ => exact block_cell HP9 3, ⟨by dsimp only; decide, by dsimp only; decide, hr1, by dsimp only; decide, area_row2 (by omega) (fun j v hj => by rw [block_cell HA0' j, List.getElem?_toArray]; exact hj), fun i hi => by match i, hi with | 0, _ => exact ⟨by dsimp; decide, by dsimp; decide, by dsimp; decide, by dsimp; decide, by dsimp; decide⟩ | 1, _ => exact ⟨by dsimp; decide, by dsimp; decide, by dsimp; decide, by dsimp; decide, by dsimp; decide⟩⟩, by dsimp only; decide, rfl, by show w1.heap.size ≠ S; omega, by show w1.heap.size ≠ w2.heap.size + 1; omega, by show w1.heap.size < _; omega, by show _ ≤ w1.heap.size; omega, block_fro HA0'⟩
        | 1, _ =>
          show CtryAt S (w2.heap.size + 1) w.heap.size W9 1 ⟨[52, 57], [48, 48], [48], some ⟨w1.heap.size + 1, 0, none⟩, 3, 3, [⟨[51, 48], 3, 7⟩, ⟨[52], 3, 6⟩, ⟨[56, 57], 5, 5⟩]⟩ (w1.heap.size + 1)
          exact ⟨fun j hj => by match j, hj with | 0, _ => exact block_cell HP9 4 | 1, _ => exact block_cell HP9 5 | 2, _ => exact block_cell HP9 6 | 3, _ => exact block_cell HP9 7, ⟨by dsimp only; decide, by dsimp only; decide, by dsimp only; decide, by dsimp only; decide, area_row3 (by omega) (fun j v hj => by rw [block_cell HA1' j, List.getElem?_toArray]; exact hj), fun i hi => by match i, hi with | 0, _ => exact ⟨by dsimp; decide, by dsimp; decide, by dsimp; decide, by dsimp; decide, by dsimp; decide⟩ | 1, _ => exact ⟨by dsimp; decide, by dsimp; decide, by dsimp; decide, by dsimp; decide, by dsimp; decide⟩ | 2, _ => exact ⟨by dsimp; decide, by dsimp; decide, by dsimp; decide, by dsimp; decide, by dsimp; decide⟩⟩, by dsimp only; decide, rfl, by show w1.heap.size + 1 ≠ S; omega, by show w1.heap.size + 1 ≠ w2.heap.size + 1; omega, by show w1.heap.size + 1 < _; omega, by show _ ≤ w1.heap.size + 1; omega, block_fro HA1'⟩
        | 2, _ =>
          show CtryAt S (w2.heap.size + 1) w.heap.size W9 2 ⟨[53, 53], t2, [], some ⟨w2.heap.size, 0, none⟩, 2, 2, [⟨[49], 2, 4⟩, ⟨[50], 5, 13⟩]⟩ w2.heap.size
          exact ⟨fun j hj => by match j, hj with | 0, _ => exact block_cell HP9 8 | 1, _ => exact block_cell HP9 9 | 2, _ => exact block_cell HP9 10 | 3, _ => exact block_cell HP9 11, ⟨by dsimp only; decide, hr2, by dsimp only; decide, by dsimp only; decide, area_row2 (by omega) (fun j v hj => by rw [block_cell HA2' j, List.getElem?_toArray]; exact hj), fun i hi => by match i, hi with | 0, _ => exact ⟨by dsimp; decide, by dsimp; decide, by dsimp; decide, by dsimp; decide, by dsimp; decide⟩ | 1, _ => exact ⟨by dsimp; decide, by dsimp; decide, by dsimp; decide, by dsimp; decide, by dsimp; decide⟩⟩, by dsimp only; decide, rfl, by show w2.heap.size ≠ S; omega, by show w2.heap.size ≠ w2.heap.size + 1; omega, by show w2.heap.size < _; omega, by show _ ≤ w2.heap.size; omega, block_fro HA2'⟩
      · skip
        generalize hW9 : (World.alloc (w2.alloc _) _) = W9
        have HP9 : W9.heap[w2.heap.size + 1]? = some (.cells #[.string ⟨#[49]⟩, .string ⟨#[48, 49, 49]⟩, .string ⟨t1.toArray⟩, .slice (some ⟨w1.heap.size, 0, none⟩) 2 2, .string ⟨#[52, 57]⟩, .string ⟨#[48, 48]⟩, .string ⟨#[48]⟩, .slice (some ⟨w1.heap.size + 1, 0, none⟩) 3 3, .string ⟨#[53, 53]⟩, .string ⟨t2.toArray⟩, .string ⟨#[]⟩, .slice (some ⟨w2.heap.size, 0, none⟩) 2 2] 68) := by rw [← hW9, ← hP]; exact heap_new _ _
        have HA0' := (show W9.heap[w1.heap.size]? = _ by rw [← hW9]; exact (Below.heap_alloc _ _ _ (by simp; omega)).trans (Below.heap_alloc _ _ _ (by omega))).trans HA0.out
        have HA1' := (show W9.heap[w1.heap.size + 1]? = _ by rw [← hW9]; exact (Below.heap_alloc _ _ _ (by simp; omega)).trans (Below.heap_alloc _ _ _ (by omega))).trans HA1.out
        have HA2' : W9.heap[w2.heap.size]? = some (.cells #[.string ⟨#[49]⟩, .int .i64 2, .int .i64 4, .string ⟨#[50]⟩, .int .i64 5, .int .i64 13] 72) := by rw [← hW9]; exact (Below.heap_alloc _ _ _ (by simp)).trans (heap_new _ _)
        have hz9 : W9.heap.size = w2.heap.size + 2 := by rw [← hW9]; simp
        have hzw := HZ1.out
        clear hW9
        refine ⟨fun i hi => ?_, fun i j hi hj hn => ?_, fun i hi => ?_, fun i hi => ?_⟩
        · match i, hi with
          | 0, _ => exact ⟨rfl, Or.inr ⟨w1.heap.size, 2, _, rfl, by omega, HA0', Nat.le_refl _, by unfold maxLen; omega, rfl, rfl⟩⟩
          | 1, _ => exact ⟨rfl, Or.inr ⟨w1.heap.size + 1, 3, _, rfl, by omega, HA1', Nat.le_refl _, by unfold maxLen; omega, rfl, rfl⟩⟩
          | 2, _ => exact ⟨rfl, Or.inr ⟨w2.heap.size, 2, _, rfl, by omega, HA2', Nat.le_refl _, by unfold maxLen; omega, rfl, rfl⟩⟩
        · match i, hi, j, hj with
          | 0, _, 0, _ | 1, _, 1, _ | 2, _, 2, _ => exact absurd rfl hn
          | 0, _, 1, _ => show w1.heap.size ≠ w1.heap.size + 1; omega
          | 0, _, 2, _ => show w1.heap.size ≠ w2.heap.size; omega
          | 1, _, 0, _ => show w1.heap.size + 1 ≠ w1.heap.size; omega
          | 1, _, 2, _ => show w1.heap.size + 1 ≠ w2.heap.size; omega
          | 2, _, 0, _ => show w2.heap.size ≠ w1.heap.size; omega
          | 2, _, 1, _ => show w2.heap.size ≠ w1.heap.size + 1; omega
        · match i, hi with
          | 0, _ | 1, _ | 2, _ => rfl
        · match i, hi with
          | 0, _ => exact (show 2 ≤ 3 by decide)
          | 1, _ => exact (show 3 ≤ 3 by decide)
          | 2, _ => exact (show 2 ≤ 3 by decide)
end Go.Proofs.YthajppcmmmkfcaaGreatDoor
