/- What is proved here: lemmas and contracts for the statement, put together out of smaller texts (Tariff, ClassOf, Price, MediaMath, Ready, LawBcn). No condition beyond those stated. -/
import Derived.Test.YtamoclofloijpaaGreatDoorPtPkB
import Derived.Test.YtamoclofloijpaaGreatDoorPtPkA
import Derived.LoopN
import Derived.Deep.RegionWith
import Derived.StillTailTactics
import Derived.IntWalk
import Derived.WalkArith
import Derived.Test.YtamoclofloijpaaGreatDoorPtPkK
namespace Go.Proofs.YtamoclofloijpaaGreatDoor
open Go.RowKit
set_option linter.unusedVariables false

structure Cls where
  pre : List UInt8
  name : List UInt8
  setup : Int
  first : Int
  step : Int
  rate : Int

def Cls.cells (c : Cls) : List Value := [.string ⟨c.pre.toArray⟩, .string ⟨c.name.toArray⟩, .int .i64 c.setup, .int .i64 c.first, .int .i64 c.step, .int .i64 c.rate]
def noCls : Cls := ⟨[], [], 0, 0, 0, 0⟩

/-- A slice of classes that lies in memory. -/
def ClsRow (w : World) (a : Option Addr) (n : Nat) (cs : List Cls) : Prop :=
  n = cs.length ∧ n ≤ 200 ∧ (n = 0 ∨ ∃ b off, a = some ⟨b, off, none⟩ ∧ b < w.heap.size ∧ ∀ i, i < n → ∀ j, j < 6 → w.cell? ⟨b, off + i * 6 + j, none⟩ = (cs.getD i noCls).cells[j]?)

theorem ClsRow.below {w w' : World} {a : Option Addr} {n : Nat} {cs : List Cls} (h : ClsRow w a n cs) (hb : Below w.heap.size w w') : ClsRow w' a n cs := by
  obtain ⟨h1, h2, h3⟩ := h
  refine ⟨h1, h2, h3.imp id ?_⟩
  rintro ⟨b, off, ha, hl, hc⟩
  exact ⟨b, off, ha, Nat.lt_of_lt_of_le hl hb.size, fun i hi j hj => (hb.cell (p := ⟨b, off + i * 6 + j, none⟩) hl).trans (hc i hi j hj)⟩

/-- A slice of strings that lies in memory. -/
def StrRow (w : World) (a : Option Addr) (n : Nat) (ss : List (List UInt8)) : Prop :=
  n = ss.length ∧ n ≤ 200 ∧ (n = 0 ∨ ∃ b off, a = some ⟨b, off, none⟩ ∧ b < w.heap.size ∧ ∀ i, i < n → w.cell? ⟨b, off + i, none⟩ = some (.string ⟨(ss.getD i []).toArray⟩))

theorem StrRow.below {w w' : World} {a : Option Addr} {n : Nat} {ss : List (List UInt8)} (h : StrRow w a n ss) (hb : Below w.heap.size w w') : StrRow w' a n ss := by
  obtain ⟨h1, h2, h3⟩ := h
  refine ⟨h1, h2, h3.imp id ?_⟩
  rintro ⟨b, off, ha, hl, hc⟩
  exact ⟨b, off, ha, Nat.lt_of_lt_of_le hl hb.size, fun i hi => (hb.cell (p := ⟨b, off + i, none⟩) hl).trans (hc i hi)⟩

theorem within_a (n lo hi : Int) (w : World) (h1 : lo ≤ n) (h2 : n ≤ hi) :
    Calls Tryz.prog 78 #[.int .i64 n, .int .i64 lo, .int .i64 hi] w fun e w' => e = .returned (.bool true) ∧ w = w' := by
  go_enter Tryz.func78, Tryz.ntmps78
  go_wp2
  go_ret
  exact ⟨rfl, rfl⟩

/-- What the numbers of a class may begin with. -/
def isPreB (l : List UInt8) : Bool := l.isEmpty || (Lib.hasPrefix l [43] && (decide ((Lib.trimPrefix l [43]).length ≤ 15) && allIn (Lib.trimPrefix l [43]) digitSet))

theorem isPrefix_any (l : List UInt8) (w : World) (hs : l.length ≤ 9223372036854775807) :
    Calls Tryz.prog 133 #[.string ⟨l.toArray⟩] w fun e w' => e = .returned (.bool (isPreB l)) ∧ Below w.heap.size w w' := by
  have hcon := Tryz.strings_CutPrefix ⟨l.toArray⟩ ⟨#[43]⟩ w
  have hle : (Lib.trimPrefix l [43]).length ≤ l.length := by unfold Lib.trimPrefix; split <;> simp
  have hd : Hid (isPreB l = (l.isEmpty || (Lib.hasPrefix l [43] && (decide ((Lib.trimPrefix l [43]).length ≤ 15) && (Lib.trimS (Lib.trimPrefix l [43]) digitSet).isEmpty)))) := by rfl
  change Calls _ _ _ w fun e w' => e = .returned (.tuple #[.string ⟨(Lib.trimPrefix l [43]).toArray⟩, .bool (Lib.hasPrefix l [43])]) ∧ w' = w at hcon
  generalize Lib.trimPrefix l [43] = d at hcon hd hle
  generalize Lib.hasPrefix l [43] = b at hcon hd
  have hcon2 := fun w => trim_digits ⟨d.toArray⟩ w (by show d.length ≤ _; omega)
  change ∀ w, Calls _ _ _ w fun e w' => e = .returned (.string ⟨(Lib.trimS d digitSet).toArray⟩) ∧ Below w.heap.size w w' at hcon2
  generalize Lib.trimS d digitSet = r at hcon2 hd
  cases hl : l with
  | nil =>
    subst hl
    cases b <;>
    · go_enter Tryz.func133, Tryz.ntmps133
      go_wp2_with (first | (go_at_call 134; refine hcon.mono ?_; rintro e w' ⟨rfl, rfl⟩) | (go_at_call 65; refine (hcon2 _).mono ?_; rintro e w' ⟨rfl, hB⟩))
      go_ret
      exact ⟨by rw [hd.out]; rfl, Below.refl _ _⟩
  | cons c l' =>
    rw [hl] at hcon hd
    have hne : (c :: l').isEmpty = false := rfl
    cases b with
    | false =>
      go_enter Tryz.func133, Tryz.ntmps133
      go_wp2_with (first | (go_at_call 134; refine hcon.mono ?_; rintro e w' ⟨rfl, rfl⟩) | (go_at_call 65; refine (hcon2 _).mono ?_; rintro e w' ⟨rfl, hB⟩))
      go_ret
      exact ⟨by rw [hd.out]; rfl, Below.refl _ _⟩
    | true =>
      by_cases h15 : d.length ≤ 15
      · go_enter Tryz.func133, Tryz.ntmps133
        go_wp2_with (first | (go_at_call 134; refine hcon.mono ?_; rintro e w' ⟨rfl, rfl⟩) | (go_at_call 65; refine (hcon2 _).mono ?_; rintro e w' ⟨rfl, hB⟩))
        go_ret
        exact ⟨by rw [hd.out, decide_eq_true h15]; rfl, hB⟩
      · go_enter Tryz.func133, Tryz.ntmps133
        go_wp2_with (first | (go_at_call 134; refine hcon.mono ?_; rintro e w' ⟨rfl, rfl⟩) | (go_at_call 65; refine (hcon2 _).mono ?_; rintro e w' ⟨rfl, hB⟩))
        go_ret
        exact ⟨by rw [hd.out, decide_eq_false (by omega)]; rfl, Below.refl _ _⟩

structure GoodCls (c : Cls) : Prop where
  pre : isPreB c.pre = true
  preLen : c.pre.length ≤ 1000
  name : isKeyB c.name = true
  nameLen : c.name.length ≤ 1000
  setup0 : 0 ≤ c.setup
  setup1 : c.setup ≤ 1000000
  rate0 : 0 ≤ c.rate
  rate1 : c.rate ≤ 1000000
  first0 : 0 ≤ c.first
  first1 : c.first ≤ 86400000
  step0 : 1 ≤ c.step
  step1 : c.step ≤ 86400000

theorem cls_cells {w : World} {b off i : Nat} {c : Cls} (h : ∀ j, j < 6 → w.cell? ⟨b, off + i * 6 + j, none⟩ = c.cells[j]?) :
    w.cell? ⟨b, off + i * 6, none⟩ = some (.string ⟨c.pre.toArray⟩) ∧ w.cell? ⟨b, off + i * 6 + 1, none⟩ = some (.string ⟨c.name.toArray⟩) ∧ w.cell? ⟨b, off + i * 6 + 2, none⟩ = some (.int .i64 c.setup) ∧ w.cell? ⟨b, off + i * 6 + 3, none⟩ = some (.int .i64 c.first) ∧ w.cell? ⟨b, off + i * 6 + 4, none⟩ = some (.int .i64 c.step) ∧ w.cell? ⟨b, off + i * 6 + 5, none⟩ = some (.int .i64 c.rate) :=
  ⟨h 0 (by omega), h 1 (by omega), h 2 (by omega), h 3 (by omega), h 4 (by omega), h 5 (by omega)⟩

set_option maxHeartbeats 1000000 in
theorem checkTariff_ok (w : World) (a : Option Addr) (n cap : Nat) (cs : List Cls) (free : Int) (a2 : Option Addr) (n2 cap2 : Nat) (ss : List (List UInt8))
    (hr : ClsRow w a n cs) (hg : ∀ i, i < n → GoodCls (cs.getD i noCls)) (ho : ∀ i, 0 < i → i < n → leS (cs.getD i noCls).pre (cs.getD (i - 1) noCls).pre = false) (hs : StrRow w a2 n2 ss) (hi : ∀ i, i < n2 → isKeyB (ss.getD i []) = true ∧ (ss.getD i []).length ≤ 1000) (ho2 : ∀ i, 0 < i → i < n2 → leS (ss.getD i []) (ss.getD (i - 1) []) = false) (hf0 : 0 ≤ free) (hf1 : free ≤ 2592000000) :
    Calls Tryz.prog 76 #[.agg #[.slice a n cap, .int .i64 free, .slice a2 n2 cap2]] w fun e w' => e = .returned (.int .i64 0) ∧ Below w.heap.size w w' := by
  obtain ⟨hn, hn2, hr⟩ := hr
  have Hg := Lib.hid hg
  have Hr := Lib.hid hr
  have Hn := Lib.hid hn
  have Ho := Lib.hid ho
  have Hi := Lib.hid hi
  have Ho2 := Lib.hid ho2
  clear hg hr hn ho hi ho2
  obtain ⟨hn3, hn4, hs⟩ := hs
  have Hn3 := Lib.hid hn3
  have Hs := Lib.hid hs
  clear hs hn3
  go_enter Tryz.func76, Tryz.ntmps76
  go_wp2_with fail
  go_loopw [14] (fun i wr => ∃ k : Nat, k ≤ n ∧ i = .int .i64 k ∧ Hid (Below (w.alloc (.cells #[.slice a n cap, .int .i64 free, .slice a2 n2 cap2] 84)).heap.size (w.alloc (.cells #[.slice a n cap, .int .i64 free, .slice a2 n2 cap2] 84)) wr)) (fun i _ => n - (intOf i).toNat)
  case atStart => exact ⟨0, Nat.zero_le _, rfl, Below.refl _ _⟩
  case round =>
    obtain ⟨k, hk, rfl, HB⟩ := hrel
    by_cases hlt : k < n
    · have g := Hg.out k hlt
      rcases Hr.out with h0 | ⟨b, off, rfl, hb, hc⟩
      · omega
      have hbw : Below w.heap.size w wr := ext_trans (ext_alloc (Below.refl _ _)) HB.out
      obtain ⟨c0, c1, c2, c3, c4, c5⟩ := cls_cells (w := wr) (fun j hj => (hbw.cell (p := ⟨b, off + k * 6 + j, none⟩) hb).trans (hc k hlt j hj))
      have x0 : wr.cell? ⟨w.heap.size, 0, none⟩ = some (.slice (some ⟨b, off, none⟩) n cap) := (HB.out.cell (p := ⟨w.heap.size, 0, none⟩) (by simp)).trans (by simp)
      have zr : w.heap.size < wr.heap.size := by have := HB.out.size; simp at this; omega
      have zb : b < wr.heap.size := by omega
      have HX : Hid (∀ j, 0 < k → j < 6 → wr.cell? ⟨b, off + (k - 1) * 6 + j, none⟩ = (cs.getD (k - 1) noCls).cells[j]?) := fun j h0 hj => (hbw.cell (p := ⟨b, off + (k - 1) * 6 + j, none⟩) hb).trans (hc (k - 1) (by omega) j hj)
      have HO : Hid (0 < k → leS (cs.getD k noCls).pre (cs.getD (k - 1) noCls).pre = false) := fun h => Ho.out k h hlt
      clear hc Hr
      generalize cs.getD k noCls = cl at g c0 c1 c2 c3 c4 c5 HO
      generalize cs.getD (k - 1) noCls = pv at HX HO
      go_wp2_with fail
      refine (isPrefix_any _ _ (by have := g.preLen; omega)).mono ?_
      rw [g.pre]
      rintro e w1 ⟨rfl, hB1⟩
      obtain ⟨q1, -⟩ := bcell hB1
      go_wp2_with fail
      refine (isKey_any _ _ (by have := g.nameLen; omega)).mono ?_
      rw [g.name]
      rintro e w2 ⟨rfl, hB2⟩
      obtain ⟨q2, -⟩ := bcell hB2
      have z1 : wr.heap.size < w1.heap.size := by have := hB1.size; simp at this; omega
      have zb1 : b < w1.heap.size := by omega
      have zw1 : w.heap.size < w1.heap.size := by omega
      obtain ⟨g1, g2, g3, g4, g5, g6, g7, g8, g9, g10, g11, g12⟩ := g
      clear g1 g3
      go_wp2_with (go_at_call 78; refine (within_a _ _ _ _ (by omega) (by omega)).mono ?_; rintro e w' ⟨rfl, rfl⟩)
      by_cases hk0 : k = 0
      · subst hk0
        go_quiet (fail)
        go_wp2_with fail
        go_roundw
        case rel => exact ⟨1, by omega, rfl, (by (try show Below _ _ _); repeat (with_reducible first | exact Below.refl _ _ | assumption | exact Hid.out (by assumption) | refine ext_alloc ?_ | refine ext_drewN ?_ | refine ext_drew ?_ | refine ext_setCell ?_ (Nat.le_refl _) | refine ext_setCell ?_ (Nat.le_succ _) | refine ext_trans ?_ (by assumption) | (refine ext_setCell ?_ (by simp)) | (refine ext_setCell ?_ (by simp at *; omega))))⟩
        case measure => simp [intOf]; omega
      · have p0 : wr.cell? ⟨b, off + (k - 1) * 6, none⟩ = some (.string ⟨pv.pre.toArray⟩) := HX.out 0 (by omega) (by omega)
        have kp : (0 : Int) < (k : Int) := by omega
        have kp2 : 0 < k := by omega
        have kq : ((k : Int) - 1).toNat = k - 1 := by omega
        have kr : 0 ≤ (k : Int) - 1 := by omega
        have ks : (k : Int) - 1 < n := by omega
        obtain ⟨o1, o2⟩ := leS_false (HO.out kp2)
        go_quiet (fail)
        go_wp2_with fail
        go_roundw
        case rel => exact ⟨k + 1, by omega, by go_num, (by (try show Below _ _ _); repeat (with_reducible first | exact Below.refl _ _ | assumption | exact Hid.out (by assumption) | refine ext_alloc ?_ | refine ext_drewN ?_ | refine ext_drew ?_ | refine ext_setCell ?_ (Nat.le_refl _) | refine ext_setCell ?_ (Nat.le_succ _) | refine ext_trans ?_ (by assumption) | (refine ext_setCell ?_ (by simp)) | (refine ext_setCell ?_ (by simp at *; omega))))⟩
        case measure => simp [intOf]; omega
    · obtain ⟨wo, rfl⟩ : ∃ wo : World, wo = wr := ⟨_, rfl⟩
      have x1 : wo.cell? ⟨w.heap.size, 1, none⟩ = some (.int .i64 free) := (HB.out.cell (p := ⟨w.heap.size, 1, none⟩) (by simp)).trans (by simp)
      have x2 : wo.cell? ⟨w.heap.size, 2, none⟩ = some (.slice a2 n2 cap2) := (HB.out.cell (p := ⟨w.heap.size, 2, none⟩) (by simp)).trans (by simp)
      go_wp2_with (go_at_call 78; refine (within_a _ _ _ _ (by omega) (by omega)).mono ?_; rintro e w' ⟨rfl, rfl⟩)
      go_loopw [79] (fun i wr => ∃ k : Nat, k ≤ n2 ∧ i = .int .i64 k ∧ Hid (Below (w.alloc (.cells #[.slice a n cap, .int .i64 free, .slice a2 n2 cap2] 84)).heap.size (w.alloc (.cells #[.slice a n cap, .int .i64 free, .slice a2 n2 cap2] 84)) wr)) (fun i _ => n2 - (intOf i).toNat)
      case atStart => exact ⟨0, Nat.zero_le _, rfl, HB⟩
      case round =>
        obtain ⟨k, hk, rfl, HB⟩ := hrel
        have hbw : Below w.heap.size w wr := ext_trans (ext_alloc (Below.refl _ _)) HB.out
        have x2 : wr.cell? ⟨w.heap.size, 2, none⟩ = some (.slice a2 n2 cap2) := (HB.out.cell (p := ⟨w.heap.size, 2, none⟩) (by simp)).trans (by simp)
        have zr : w.heap.size < wr.heap.size := by have := HB.out.size; simp at this; omega
        by_cases hlt : k < n2
        · obtain ⟨g1, g2⟩ := Hi.out k hlt
          rcases Hs.out with h0 | ⟨b, off, rfl, hb, hc⟩
          · omega
          have zb : b < wr.heap.size := by omega
          have c0 := (hbw.cell (p := ⟨b, off + k, none⟩) hb).trans (hc k hlt)
          have HX : Hid (0 < k → wr.cell? ⟨b, off + (k - 1), none⟩ = some (.string ⟨(ss.getD (k - 1) []).toArray⟩)) := fun h0 => (hbw.cell (p := ⟨b, off + (k - 1), none⟩) hb).trans (hc (k - 1) (by omega))
          have HO : Hid (0 < k → leS (ss.getD k []) (ss.getD (k - 1) []) = false) := fun h => Ho2.out k h hlt
          clear hc Hs
          generalize ss.getD k [] = cl at g1 g2 c0 HO
          generalize ss.getD (k - 1) [] = pv at HX HO
          go_wp2_with fail
          refine (isKey_any _ _ (by omega)).mono ?_
          rw [g1]
          rintro e w2 ⟨rfl, hB2⟩
          obtain ⟨q2, -⟩ := bcell hB2
          clear g1
          by_cases hk0 : k = 0
          · subst hk0
            go_wp2_with fail
            go_roundw
            case rel => exact ⟨1, by omega, rfl, (by (try show Below _ _ _); repeat (with_reducible first | exact Below.refl _ _ | assumption | exact Hid.out (by assumption) | refine ext_alloc ?_ | refine ext_drewN ?_ | refine ext_drew ?_ | refine ext_setCell ?_ (Nat.le_refl _) | refine ext_setCell ?_ (Nat.le_succ _) | refine ext_trans ?_ (by assumption) | (refine ext_setCell ?_ (by simp)) | (refine ext_setCell ?_ (by simp at *; omega))))⟩
            case measure => simp [intOf]; omega
          · have p0 := HX.out (by omega)
            have kp : (0 : Int) < (k : Int) := by omega
            have kp2 : 0 < k := by omega
            have kq : ((k : Int) - 1).toNat = k - 1 := by omega
            have kr : 0 ≤ (k : Int) - 1 := by omega
            have ks : (k : Int) - 1 < n2 := by omega
            obtain ⟨o1, o2⟩ := leS_false (HO.out kp2)
            go_wp2_with fail
            go_roundw
            case rel => exact ⟨k + 1, by omega, by go_num, (by (try show Below _ _ _); repeat (with_reducible first | exact Below.refl _ _ | assumption | exact Hid.out (by assumption) | refine ext_alloc ?_ | refine ext_drewN ?_ | refine ext_drew ?_ | refine ext_setCell ?_ (Nat.le_refl _) | refine ext_setCell ?_ (Nat.le_succ _) | refine ext_trans ?_ (by assumption) | (refine ext_setCell ?_ (by simp)) | (refine ext_setCell ?_ (by simp at *; omega))))⟩
            case measure => simp [intOf]; omega
        · go_wp2_with fail
          go_ret
          exact ⟨rfl, hbw⟩
end Go.Proofs.YtamoclofloijpaaGreatDoor

namespace Go.Proofs.YtamoclofloijpaaGreatDoor
open Go.RowKit
set_option linter.unusedVariables false

/-- The classes are in order, each before the next. -/
def Sorted (cs : List Cls) : Prop := ∀ i, 0 < i → i < cs.length → leS (cs.getD i noCls).pre (cs.getD (i - 1) noCls).pre = false

theorem Sorted.lt {cs : List Cls} (h : Sorted cs) : ∀ (i d : Nat), i + (d + 1) < cs.length → Op.bytesLess (cs.getD i noCls).pre (cs.getD (i + (d + 1)) noCls).pre = true
  | i, 0, hi => by have := h (i + 1) (by omega) hi; exact less_of_leS this
  | i, d + 1, hi => by
    have h1 := Sorted.lt h i d (by omega)
    have h2 := less_of_leS (h (i + (d + 1) + 1) (by omega) (by omega))
    exact less_trans h1 h2

theorem Sorted.lt' {cs : List Cls} (h : Sorted cs) {i j : Nat} (hij : i < j) (hj : j < cs.length) : Op.bytesLess (cs.getD i noCls).pre (cs.getD j noCls).pre = true := by
  have := h.lt i (j - i - 1) (by omega)
  rwa [show i + (j - i - 1 + 1) = j by omega] at this

def cmpAt (cs : List Cls) (t : List UInt8) (i : Nat) : Int := Lib.compareBytes (cs.getD i noCls).pre t

theorem cmpAt_mono {cs : List Cls} (h : Sorted cs) {t : List UInt8} {i j : Nat} (hij : i ≤ j) (hj : j < cs.length) (hc : cmpAt cs t j < 0) : cmpAt cs t i < 0 := by
  rcases Nat.lt_or_eq_of_le hij with h' | rfl
  · unfold cmpAt at hc ⊢
    rw [cmp_neg] at hc ⊢
    exact less_trans (h.lt' h' hj) hc
  · exact hc

def findPre (cs : List Cls) (t : List UInt8) : Option Cls := cs.find? (fun c => c.pre == t)

theorem find_hit {cs : List Cls} (h : Sorted cs) {t : List UInt8} {i : Nat} (hi : i < cs.length) (hc : cmpAt cs t i = 0) : findPre cs t = some (cs.getD i noCls) := by
  unfold cmpAt at hc
  rw [cmp_zero] at hc
  unfold findPre
  rw [List.find?_eq_some_iff_getElem]
  have e : cs.getD i noCls = cs[i] := by simp [List.getD_eq_getElem?_getD, List.getElem?_eq_getElem hi]
  refine ⟨by simpa using hc, i, hi, e.symm, fun j hj => ?_⟩
  have e2 : cs.getD j noCls = cs[j] := by simp [List.getD_eq_getElem?_getD, List.getElem?_eq_getElem (Nat.lt_trans hj hi)]
  have := h.lt' hj hi
  rw [hc, e2] at this
  simp only [Bool.not_eq_true', beq_eq_false_iff_ne]
  intro e3
  rw [e3, less_irrefl] at this
  cases this

theorem find_miss {cs : List Cls} (h : Sorted cs) {t : List UInt8} {i : Nat} (hi : i ≤ cs.length) (h1 : ∀ m, m < i → cmpAt cs t m < 0) (h2 : ∀ m, i ≤ m → m < cs.length → ¬ cmpAt cs t m < 0) (h3 : i < cs.length → cmpAt cs t i ≠ 0) : findPre cs t = none := by
  unfold findPre
  rw [List.find?_eq_none]
  intro c hc hp
  obtain ⟨j, hj, rfl⟩ := List.getElem_of_mem hc
  have e : cs.getD j noCls = cs[j] := by simp [List.getD_eq_getElem?_getD, List.getElem?_eq_getElem hj]
  have hp' : cs[j].pre = t := by simpa using hp
  have hz : cmpAt cs t j = 0 := by unfold cmpAt; rw [cmp_zero, e]; exact hp'
  by_cases hji : j < i
  · have := h1 j hji; omega
  · by_cases hje : j = i
    · subst hje; exact h3 hj hz
    · have hlt : i < j := by omega
      have := h2 i (Nat.le_refl _) (by omega)
      apply this
      unfold cmpAt
      rw [cmp_neg]
      have hl := h.lt' hlt hj
      rw [e, hp'] at hl
      exact hl

theorem cls1_any (p n t : List UInt8) (a b c d : Int) (w : World) :
    Calls Tryz.prog 137 #[.agg #[.string ⟨p.toArray⟩, .string ⟨n.toArray⟩, .int .i64 a, .int .i64 b, .int .i64 c, .int .i64 d], .string ⟨t.toArray⟩] w fun e w' => e = .returned (.int .i64 (Lib.compareBytes p t)) ∧ Below w.heap.size w w' := by
  have hcon := fun w => Tryz.strings_Compare ⟨p.toArray⟩ ⟨t.toArray⟩ w
  change ∀ w, Calls _ _ _ w fun e w' => e = .returned (.int .i64 (Lib.compareBytes p t)) ∧ w' = w at hcon
  generalize Lib.compareBytes p t = r at hcon ⊢
  go_enter Tryz.func137, Tryz.ntmps137
  go_wp2_with (go_at_call 87; refine (hcon _).mono ?_; rintro e w' ⟨rfl, rfl⟩)
  go_ret
  exact ⟨rfl, (by (try show Below _ _ _); repeat (with_reducible first | exact Below.refl _ _ | assumption | exact Hid.out (by assumption) | refine ext_alloc ?_ | refine ext_drewN ?_ | refine ext_drew ?_ | refine ext_setCell ?_ (Nat.le_refl _) | refine ext_setCell ?_ (Nat.le_succ _) | refine ext_trans ?_ (by assumption) | (refine ext_setCell ?_ (by simp)) | (refine ext_setCell ?_ (by simp at *; omega))))⟩

/-- What the search comes to. -/
def Found (cs : List Cls) (t : List UInt8) (n : Nat) (w : World) (e : Ending) (w' : World) : Prop :=
  Below w.heap.size w w' ∧ ((∃ i, i < n ∧ e = .returned (.tuple #[.int .i64 (i : Nat), .bool true]) ∧ findPre cs t = some (cs.getD i noCls)) ∨ ∃ i : Int, e = .returned (.tuple #[.int .i64 i, .bool false]) ∧ findPre cs t = none)

set_option maxHeartbeats 1000000 in
theorem search_any (w : World) (a : Option Addr) (n cap : Nat) (cs : List Cls) (t : List UInt8) (hr : ClsRow w a n cs) (ho : Sorted cs) :
    Calls Tryz.prog 136 #[.slice a n cap, .string ⟨t.toArray⟩, .func (.func 137) #[] #[]] w (Found cs t n w) := by
  obtain ⟨hn, hn2, hr⟩ := hr
  have Hn := Lib.hid hn
  have Hr := Lib.hid hr
  have Ho := Lib.hid ho
  clear hn hr ho
  go_enter Tryz.func136, Tryz.ntmps136
  go_wp2_with fail
  go_loopw [9, 10] (fun s9 s10 wr => ∃ i j : Nat, i ≤ j ∧ j ≤ n ∧ s9 = .int .i64 i ∧ s10 = .int .i64 j ∧ Hid (Below w.heap.size w wr) ∧ Hid (∀ m, m < i → cmpAt cs t m < 0) ∧ Hid (∀ m, j ≤ m → m < n → 0 ≤ cmpAt cs t m)) (fun s9 s10 _ => (intOf s10).toNat - (intOf s9).toNat)
  case atStart => exact ⟨0, n, Nat.zero_le _, Nat.le_refl _, rfl, rfl, Below.refl _ _, fun m hm => absurd hm (by omega), fun m h1 h2 => absurd h1 (by omega)⟩
  case round =>
    obtain ⟨i, j, hij, hjn, rfl, rfl, HB, HL, HU⟩ := hrel
    by_cases hlt : i < j
    · rcases Hr.out with h0 | ⟨b, off, rfl, hb, hc⟩
      · omega
      obtain ⟨c0, c1, c2, c3, c4, c5⟩ := cls_cells (w := wr) (fun q hq => (HB.out.cell (p := ⟨b, off + ((i + j) / 2) * 6 + q, none⟩) hb).trans (hc ((i + j) / 2) (by omega) q hq))
      have hcmp : Hid (cmpAt cs t ((i + j) / 2) = Lib.compareBytes (cs.getD ((i + j) / 2) noCls).pre t) := rfl
      clear hc Hr
      generalize cs.getD ((i + j) / 2) noCls = cl at c0 c1 c2 c3 c4 c5 hcmp
      go_wp2_with fail
      refine (cls1_any _ _ _ _ _ _ _ _).mono ?_
      rintro e w1 ⟨rfl, hB1⟩
      generalize Lib.compareBytes cl.pre t = r at hcmp
      by_cases hr0 : r < 0
      · go_wp2_with fail
        go_roundw
        case rel => exact ⟨(i + j) / 2 + 1, j, by omega, hjn, by go_num, rfl, ext_trans HB.out hB1, fun m hm => cmpAt_mono Ho.out (j := (i + j) / 2) (by omega) (by rw [← Hn.out]; omega) (by rw [hcmp.out]; exact hr0), HU⟩
        case measure => simp [intOf]; omega
      · go_wp2_with fail
        go_roundw
        case rel => exact ⟨i, (i + j) / 2, by omega, by omega, rfl, by go_num, ext_trans HB.out hB1, HL, fun m h1 h2 => Int.not_lt.1 (fun hm => absurd (show r < 0 by rw [← hcmp.out]; exact cmpAt_mono Ho.out h1 (by rw [← Hn.out]; exact h2) hm) (by omega))⟩
        case measure => simp [intOf]; omega
    · obtain rfl : i = j := by omega
      by_cases hin : i < n
      · rcases Hr.out with h0 | ⟨b, off, rfl, hb, hc⟩
        · omega
        obtain ⟨c0, c1, c2, c3, c4, c5⟩ := cls_cells (w := wr) (fun q hq => (HB.out.cell (p := ⟨b, off + i * 6 + q, none⟩) hb).trans (hc i hin q hq))
        have hcmp : Hid (cmpAt cs t i = Lib.compareBytes (cs.getD i noCls).pre t) := rfl
        have hin2 : (i : Int) < (n : Int) := by omega
        clear hc Hr
        generalize hcl : cs.getD i noCls = cl at c0 c1 c2 c3 c4 c5 hcmp
        have Hcl := Lib.hid hcl
        clear hcl
        go_wp2_with fail
        refine (cls1_any _ _ _ _ _ _ _ _).mono ?_
        rintro e w1 ⟨rfl, hB1⟩
        generalize Lib.compareBytes cl.pre t = r at hcmp
        by_cases hr0 : r = 0
        · subst hr0
          go_wp2_with fail
          go_ret2
          exact ⟨ext_trans HB.out hB1, Or.inl ⟨i, hin, rfl, find_hit Ho.out (by rw [← Hn.out]; exact hin) hcmp.out⟩⟩
        · have hr1 : (r == 0) = false := by simpa using hr0
          go_wp2_with fail
          go_ret2
          exact ⟨ext_trans HB.out hB1, Or.inr ⟨_, rfl, find_miss Ho.out (by rw [← Hn.out]; omega) HL.out (by rw [← Hn.out]; exact fun m h1 h2 => Int.not_lt.2 (HU.out m h1 h2)) (fun _ => by rw [hcmp.out]; exact hr0)⟩⟩
      · have hin2 : ¬ (i : Int) < (n : Int) := by omega
        go_wp2_with fail
        go_ret2
        exact ⟨HB.out, Or.inr ⟨_, rfl, find_miss Ho.out (by rw [← Hn.out]; omega) HL.out (by rw [← Hn.out]; exact fun m h1 h2 => Int.not_lt.2 (HU.out m h1 h2)) (fun h => absurd h (by rw [← Hn.out]; omega))⟩⟩

def FoundP (cs : List Cls) (t : List UInt8) (n : Nat) (i : Int) (f : Bool) : Prop := (f = true → ∃ m : Nat, m < n ∧ i = m ∧ findPre cs t = some (cs.getD m noCls)) ∧ (f = false → findPre cs t = none)
def Found2 (cs : List Cls) (t : List UInt8) (n : Nat) (w : World) (e : Ending) (w' : World) : Prop :=
  ∃ (i : Int) (f : Bool), e = .returned (.tuple #[.int .i64 i, .bool f]) ∧ Below w.heap.size w w' ∧ FoundP cs t n i f

theorem search_str (w : World) (a : Option Addr) (n cap : Nat) (cs : List Cls) (t : List UInt8) (s : ByteArray) (hs : s.data.toList = t) (hr : ClsRow w a n cs) (ho : Sorted cs) :
    Calls Tryz.prog 136 #[.slice a n cap, .string s, .func (.func 137) #[] #[]] w (Found2 cs t n w) := by
  have h := search_any w a n cap cs t hr ho
  have e : (⟨t.toArray⟩ : ByteArray) = s := by rw [← hs]
  rw [e] at h
  refine h.mono ?_
  rintro e w' ⟨hb, ⟨i, hi, rfl, hf⟩ | ⟨i, rfl, hf⟩⟩
  · exact ⟨_, _, rfl, hb, (fun _ => ⟨i, hi, rfl, hf⟩), (fun h => by cases h)⟩
  · exact ⟨_, _, rfl, hb, (fun h => by cases h), fun _ => hf⟩

theorem extract_take (l : List UInt8) (k : Nat) : ((⟨l.toArray⟩ : ByteArray).extract 0 k).data.toList = l.take k := by
  simp [ByteArray.extract, ByteArray.copySlice]

def priceI (c : Cls) (talk : Int) : Int := if talk = 0 then 0 else c.setup + c.rate * ((max 0 (talk - c.first) + c.step - 1) / c.step)

set_option maxHeartbeats 1000000 in
theorem price_any (c : Cls) (talk : Int) (w : World) (g : GoodCls c) (h0 : 0 ≤ talk) (h1 : talk ≤ 86400000) :
    Calls Tryz.prog 80 #[.agg #[.string ⟨c.pre.toArray⟩, .string ⟨c.name.toArray⟩, .int .i64 c.setup, .int .i64 c.first, .int .i64 c.step, .int .i64 c.rate], .int .i64 talk] w fun e w' => e = .returned (.int .i64 (priceI c talk)) ∧ Below w.heap.size w w' := by
  obtain ⟨g1, g2, g3, g4, g5, g6, g7, g8, g9, g10, g11, g12⟩ := g
  clear g1 g3
  have hd : Hid (priceI c talk = if talk = 0 then 0 else c.setup + c.rate * ((max 0 (talk - c.first) + c.step - 1) / c.step)) := rfl
  by_cases ht : talk = 0
  · subst ht
    go_enter Tryz.func80, Tryz.ntmps80
    go_wp2_with fail
    go_ret
    exact ⟨by rw [hd.out]; rfl, (by (try show Below _ _ _); repeat (with_reducible first | exact Below.refl _ _ | assumption | exact Hid.out (by assumption) | refine ext_alloc ?_ | refine ext_drewN ?_ | refine ext_drew ?_ | refine ext_setCell ?_ (Nat.le_refl _) | refine ext_setCell ?_ (Nat.le_succ _) | refine ext_trans ?_ (by assumption) | (refine ext_setCell ?_ (by simp)) | (refine ext_setCell ?_ (by simp at *; omega))))⟩
  · have ht2 : (talk == 0) = false := by simpa using ht
    go_enter Tryz.func80, Tryz.ntmps80
    go_wp2_with fail
    generalize hv : max 0 (talk - c.first) = v at hd
    have v0 : 0 ≤ v := by omega
    have v1 : v ≤ 86400000 := by omega
    clear hv
    have q0 : 0 ≤ (v + c.step - 1) / c.step := Int.ediv_nonneg (by omega) (by omega)
    have q1 : (v + c.step - 1) / c.step ≤ 172800000 := Int.ediv_le_of_le_mul (by omega) (by have : (172800000 : Int) * 1 ≤ 172800000 * c.step := Int.mul_le_mul_of_nonneg_left g11 (by omega); omega)
    have m0 : 0 ≤ c.rate * ((v + c.step - 1) / c.step) := Int.mul_nonneg g7 q0
    have m1 : c.rate * ((v + c.step - 1) / c.step) ≤ 1000000 * 172800000 := Int.mul_le_mul g8 q1 q0 (by omega)
    have w1 : IntKind.i64.wrap (v + c.step) = v + c.step := IntWalk.i64_in _ (by omega)
    have w2 : IntKind.i64.wrap (v + c.step - 1) = v + c.step - 1 := IntWalk.i64_in _ (by omega)
    have w3 : IntKind.i64.wrap (c.rate * ((v + c.step - 1) / c.step)) = c.rate * ((v + c.step - 1) / c.step) := IntWalk.i64_in _ (by omega)
    have w4 : IntKind.i64.wrap (c.setup + c.rate * ((v + c.step - 1) / c.step)) = c.setup + c.rate * ((v + c.step - 1) / c.step) := IntWalk.i64_in _ (by omega)
    have w5 : (v + c.step - 1).tdiv c.step = (v + c.step - 1) / c.step := Int.tdiv_eq_ediv_of_nonneg (by omega)
    have w6 : IntKind.i64.wrap ((v + c.step - 1) / c.step) = (v + c.step - 1) / c.step := IntWalk.i64_in _ (by omega)
    have w7 : ¬ c.step = 0 := by omega
    clear q0 q1 m0 m1
    go_quiet (fail)
    go_wp2_with fail
    go_ret
    exact ⟨by rw [hd.out, if_neg ht]; rfl, (by (try show Below _ _ _); repeat (with_reducible first | exact Below.refl _ _ | assumption | exact Hid.out (by assumption) | refine ext_alloc ?_ | refine ext_drewN ?_ | refine ext_drew ?_ | refine ext_setCell ?_ (Nat.le_refl _) | refine ext_setCell ?_ (Nat.le_succ _) | refine ext_trans ?_ (by assumption) | (refine ext_setCell ?_ (by simp)) | (refine ext_setCell ?_ (by simp at *; omega))))⟩

/-- The class of a number: that of the longest of its beginnings of at most k bytes. -/
def clsTo (cs : List Cls) (l : List UInt8) : Nat → Option Cls
  | 0 => findPre cs (l.take 0)
  | k + 1 => (findPre cs (l.take (k + 1))).or (clsTo cs l k)

def clsOf (cs : List Cls) (l : List UInt8) : Option Cls := clsTo cs l l.length

def ClsPost (cs : List Cls) (l : List UInt8) (w : World) (e : Ending) (w' : World) : Prop :=
  Below w.heap.size w w' ∧ ((∃ c ∈ cs, e = .returned (.tuple #[.agg #[.string ⟨c.pre.toArray⟩, .string ⟨c.name.toArray⟩, .int .i64 c.setup, .int .i64 c.first, .int .i64 c.step, .int .i64 c.rate], .bool true]) ∧ clsOf cs l = some c) ∨
    (e = .returned (.tuple #[.agg #[.string ⟨#[]⟩, .string ⟨#[]⟩, .int .i64 0, .int .i64 0, .int .i64 0, .int .i64 0], .bool false]) ∧ clsOf cs l = none))

set_option maxRecDepth 100000 in
set_option maxHeartbeats 1000000 in
theorem classOf_any (w : World) (a : Option Addr) (n cap : Nat) (cs : List Cls) (v1 v2 : Value) (l : List UInt8) (hr : ClsRow w a n cs) (ho : Sorted cs) (hl : l.length ≤ 1000) :
    Calls Tryz.prog 79 #[.agg #[.slice a n cap, v1, v2], .string ⟨l.toArray⟩] w (ClsPost cs l w) := by
  have Hr := Lib.hid hr
  have Ho := Lib.hid ho
  clear hr ho
  go_enter Tryz.func79, Tryz.ntmps79
  go_wp2_with fail
  go_loopw [6] (fun s6 wr => ∃ k : Nat, k ≤ l.length + 1 ∧ s6 = .int .i64 ((k : Int) - 1) ∧ Hid (Below ((w.alloc (.cells #[.slice a n cap, v1, v2] 84)).alloc (.cells #[.string ⟨#[]⟩, .string ⟨#[]⟩, .int .i64 0, .int .i64 0, .int .i64 0, .int .i64 0] 80)).heap.size ((w.alloc (.cells #[.slice a n cap, v1, v2] 84)).alloc (.cells #[.string ⟨#[]⟩, .string ⟨#[]⟩, .int .i64 0, .int .i64 0, .int .i64 0, .int .i64 0] 80)) wr) ∧ Hid (clsOf cs l = match k with | 0 => none | m + 1 => clsTo cs l m)) (fun s6 _ => ((intOf s6) + 1).toNat)
  case atStart => exact ⟨l.length + 1, Nat.le_refl _, by go_num, Below.refl _ _, rfl⟩
  case round =>
    obtain ⟨k, hk, rfl, HB, HC⟩ := hrel
    have hbw : Below w.heap.size w wr := ext_trans (ext_alloc (ext_alloc (Below.refl _ _))) HB.out
    have x0 : wr.cell? ⟨w.heap.size, 0, none⟩ = some (.slice a n cap) := (HB.out.cell (p := ⟨w.heap.size, 0, none⟩) (by simp; omega)).trans (by simp)
    cases k with
    | zero =>
      have r0 : wr.cell? ⟨w.heap.size + 1, 0, none⟩ = some (.string ⟨#[]⟩) := (HB.out.cell (p := ⟨w.heap.size + 1, 0, none⟩) (by simp)).trans (by simp)
      have r1 : wr.cell? ⟨w.heap.size + 1, 1, none⟩ = some (.string ⟨#[]⟩) := (HB.out.cell (p := ⟨w.heap.size + 1, 1, none⟩) (by simp)).trans (by simp)
      have r2 : wr.cell? ⟨w.heap.size + 1, 2, none⟩ = some (.int .i64 0) := (HB.out.cell (p := ⟨w.heap.size + 1, 2, none⟩) (by simp)).trans (by simp)
      have r3 : wr.cell? ⟨w.heap.size + 1, 3, none⟩ = some (.int .i64 0) := (HB.out.cell (p := ⟨w.heap.size + 1, 3, none⟩) (by simp)).trans (by simp)
      have r4 : wr.cell? ⟨w.heap.size + 1, 4, none⟩ = some (.int .i64 0) := (HB.out.cell (p := ⟨w.heap.size + 1, 4, none⟩) (by simp)).trans (by simp)
      have r5 : wr.cell? ⟨w.heap.size + 1, 5, none⟩ = some (.int .i64 0) := (HB.out.cell (p := ⟨w.heap.size + 1, 5, none⟩) (by simp)).trans (by simp)
      have rf : ∀ j, wr.frozen? ⟨w.heap.size + 1, j, none⟩ = false := fun j => (HB.out.frozen (p := ⟨w.heap.size + 1, j, none⟩) (by simp)).trans (by simp)
      go_wp2_with fail
      refine bodyPost_ret (v := .tuple #[.agg #[.string ⟨#[]⟩, .string ⟨#[]⟩, .int .i64 0, .int .i64 0, .int .i64 0, .int .i64 0], .bool false]) (by simp [results, Tryz.results79, go_sem, r0, r1, r2, r3, r4, r5]) rfl ⟨?_, Or.inr ⟨rfl, HC.out⟩⟩
      exact (by (try show Below _ _ _); repeat (with_reducible first | exact Below.refl _ _ | assumption | exact Hid.out (by assumption) | refine ext_alloc ?_ | refine ext_drewN ?_ | refine ext_drew ?_ | refine ext_setCell ?_ (Nat.le_refl _) | refine ext_setCell ?_ (Nat.le_succ _) | refine ext_trans ?_ (by assumption) | (refine ext_setCell ?_ (by simp)) | (refine ext_setCell ?_ (by simp at *; omega))))
    | succ k =>
      have hk1 : ((k + 1 : Nat) : Int) - 1 = (k : Int) := by omega
      rw [hk1]
      clear hk1
      have kl : (k : Int) ≤ (l.length : Int) := by omega
      have kl2 : k ≤ l.length := by omega
      go_wp2_with fail
      go_region_with (go_at_call 136; refine (search_str _ a n cap cs (l.take k) _ (extract_take l k) ?hx Ho.out).mono ?_; exact Hr.out.below (ext_drew hbw); rintro e w1 ⟨i, f, rfl, hB1, hfp⟩)
      have hw1 : Below w.heap.size w w1 := ext_trans (ext_drew hbw) hB1
      have HB1 : Hid (Below ((w.alloc (.cells #[.slice a n cap, v1, v2] 84)).alloc (.cells #[.string ⟨#[]⟩, .string ⟨#[]⟩, .int .i64 0, .int .i64 0, .int .i64 0, .int .i64 0] 80)).heap.size ((w.alloc (.cells #[.slice a n cap, v1, v2] 84)).alloc (.cells #[.string ⟨#[]⟩, .string ⟨#[]⟩, .int .i64 0, .int .i64 0, .int .i64 0, .int .i64 0] 80)) w1) := ext_trans (ext_drew HB.out) hB1
      cases f with
      | false =>
        have hnone := hfp.2 rfl
        go_wp2_with fail
        go_roundw
        case rel => exact ⟨k, by omega, rfl, HB1, by
          show clsOf cs l = _
          rw [HC.out]
          cases k with
          | zero => exact hnone
          | succ m => show (findPre cs (l.take (m + 1))).or (clsTo cs l m) = _; rw [hnone]; rfl⟩
        case measure => simp [intOf]
      | true =>
        obtain ⟨m, hm, rfl, hsome⟩ := hfp.1 rfl
        have hrow := Hr.out.below hw1
        obtain ⟨hn1, hn2, hrow⟩ := hrow
        have hmem : Hid (cs.getD m noCls ∈ cs) := by
          show cs.getD m noCls ∈ cs
          have hm2 : m < cs.length := by omega
          rw [List.getD_eq_getElem?_getD, List.getElem?_eq_getElem hm2]; exact List.getElem_mem hm2
        have hfin : Hid (clsOf cs l = some (cs.getD m noCls)) := by
          show clsOf cs l = _
          rw [HC.out]
          cases k with
          | zero => exact hsome
          | succ q => show (findPre cs (l.take (q + 1))).or (clsTo cs l q) = _; rw [hsome]; rfl
        have Hn1 := Lib.hid hn1
        clear hn1 hsome hfp
        rcases hrow with h0 | ⟨b, off, rfl, hb, hc⟩
        · omega
        obtain ⟨c0, c1, c2, c3, c4, c5⟩ := cls_cells (hc m hm)
        clear hc
        have x1 : w1.cell? ⟨w.heap.size, 0, none⟩ = some (.slice (some ⟨b, off, none⟩) n cap) := (HB1.out.cell (p := ⟨w.heap.size, 0, none⟩) (by simp; omega)).trans (by simp)
        have r0 : w1.cell? ⟨w.heap.size + 1, 0, none⟩ = some (.string ⟨#[]⟩) := (HB1.out.cell (p := ⟨w.heap.size + 1, 0, none⟩) (by simp)).trans (by simp)
        have r1 : w1.cell? ⟨w.heap.size + 1, 1, none⟩ = some (.string ⟨#[]⟩) := (HB1.out.cell (p := ⟨w.heap.size + 1, 1, none⟩) (by simp)).trans (by simp)
        have r2 : w1.cell? ⟨w.heap.size + 1, 2, none⟩ = some (.int .i64 0) := (HB1.out.cell (p := ⟨w.heap.size + 1, 2, none⟩) (by simp)).trans (by simp)
        have r3 : w1.cell? ⟨w.heap.size + 1, 3, none⟩ = some (.int .i64 0) := (HB1.out.cell (p := ⟨w.heap.size + 1, 3, none⟩) (by simp)).trans (by simp)
        have r4 : w1.cell? ⟨w.heap.size + 1, 4, none⟩ = some (.int .i64 0) := (HB1.out.cell (p := ⟨w.heap.size + 1, 4, none⟩) (by simp)).trans (by simp)
        have r5 : w1.cell? ⟨w.heap.size + 1, 5, none⟩ = some (.int .i64 0) := (HB1.out.cell (p := ⟨w.heap.size + 1, 5, none⟩) (by simp)).trans (by simp)
        have rf : ∀ j, w1.frozen? ⟨w.heap.size + 1, j, none⟩ = false := fun j => (HB1.out.frozen (p := ⟨w.heap.size + 1, j, none⟩) (by simp)).trans (by simp)
        have Hb1 := Lib.hid HB1.out
        generalize cs.getD m noCls = cl at c0 c1 c2 c3 c4 c5 hmem hfin
        go_wp2_with fail
        refine bodyPost_ret (v := .tuple #[.agg #[.string ⟨cl.pre.toArray⟩, .string ⟨cl.name.toArray⟩, .int .i64 cl.setup, .int .i64 cl.first, .int .i64 cl.step, .int .i64 cl.rate], .bool true]) (by simp [results, Tryz.results79, go_sem, r0, r1, r2, r3, r4, r5]) rfl ⟨?_, Or.inl ⟨cl, hmem.out, rfl, hfin.out⟩⟩
        exact (by (try show Below _ _ _); repeat (with_reducible first | exact Below.refl _ _ | assumption | exact Hid.out (by assumption) | refine ext_alloc ?_ | refine ext_drewN ?_ | refine ext_drew ?_ | refine ext_setCell ?_ (Nat.le_refl _) | refine ext_setCell ?_ (Nat.le_succ _) | refine ext_trans ?_ (by assumption) | (refine ext_setCell ?_ (by simp)) | (refine ext_setCell ?_ (by simp at *; omega))))
end Go.Proofs.YtamoclofloijpaaGreatDoor

namespace Go.Proofs.YtamoclofloijpaaGreatDoor
open Go.RowKit
set_option linter.unusedVariables false

/-- A tariff that is right, in memory. -/
structure TariffAt (w : World) (a : Option Addr) (n : Nat) (cs : List Cls) (free : Int) (a2 : Option Addr) (n2 : Nat) (ss : List (List UInt8)) : Prop where
  row : ClsRow w a n cs
  good : ∀ i, i < n → GoodCls (cs.getD i noCls)
  sorted : Sorted cs
  ins : StrRow w a2 n2 ss
  keys : ∀ i, i < n2 → isKeyB (ss.getD i []) = true ∧ (ss.getD i []).length ≤ 1000
  order : ∀ i, 0 < i → i < n2 → leS (ss.getD i []) (ss.getD (i - 1) []) = false
  free0 : 0 ≤ free
  free1 : free ≤ 2592000000

theorem TariffAt.below {w w' : World} {a : Option Addr} {n : Nat} {cs : List Cls} {free : Int} {a2 : Option Addr} {n2 : Nat} {ss : List (List UInt8)} (h : TariffAt w a n cs free a2 n2 ss) (hb : Below w.heap.size w w') : TariffAt w' a n cs free a2 n2 ss :=
  ⟨h.row.below hb, h.good, h.sorted, h.ins.below hb, h.keys, h.order, h.free0, h.free1⟩

theorem checkTariff_at {w : World} {a : Option Addr} {n cap : Nat} {cs : List Cls} {free : Int} {a2 : Option Addr} {n2 cap2 : Nat} {ss : List (List UInt8)} (h : TariffAt w a n cs free a2 n2 ss) :
    Calls Tryz.prog 76 #[.agg #[.slice a n cap, .int .i64 free, .slice a2 n2 cap2]] w fun e w' => e = .returned (.int .i64 0) ∧ Below w.heap.size w w' :=
  checkTariff_ok w a n cap cs free a2 n2 cap2 ss h.row h.good (fun i h0 hi => h.sorted i h0 (by rw [← h.row.1]; exact hi)) h.ins h.keys h.order h.free0 h.free1

theorem TariffAt.mem {w : World} {a : Option Addr} {n : Nat} {cs : List Cls} {free : Int} {a2 : Option Addr} {n2 : Nat} {ss : List (List UInt8)} (h : TariffAt w a n cs free a2 n2 ss) {c : Cls} (hc : c ∈ cs) : GoodCls c := by
  obtain ⟨j, hj, rfl⟩ := List.getElem_of_mem hc
  have := h.good j (by rw [h.row.1]; exact hj)
  simpa [List.getD_eq_getElem?_getD, List.getElem?_eq_getElem hj] using this

def PricePost (cs : List Cls) (l : List UInt8) (talk : Int) (w : World) (e : Ending) (w' : World) : Prop :=
  Below w.heap.size w w' ∧ e = .returned (.tuple #[.int .i64 (match clsOf cs l with | some c => priceI c talk | none => 0), .int .i64 (match clsOf cs l with | some _ => 0 | none => 8)])

set_option maxHeartbeats 1000000 in
theorem price_at {w : World} {a : Option Addr} {n cap : Nat} {cs : List Cls} {free : Int} {a2 : Option Addr} {n2 cap2 : Nat} {ss : List (List UInt8)} (h : TariffAt w a n cs free a2 n2 ss) (l : List UInt8) (hl : isNumB l = true) (hl2 : l.length ≤ 1000) (talk : Int) (t0 : 0 ≤ talk) (t1 : talk ≤ 86400000) :
    Calls Tryz.prog 30 #[.agg #[.slice a n cap, .int .i64 free, .slice a2 n2 cap2], .string ⟨l.toArray⟩, .int .i64 talk] w (PricePost cs l talk w) := by
  have H := Lib.hid h
  clear h
  go_enter Tryz.func30, Tryz.ntmps30
  go_wp2_with fail
  refine (checkTariff_at (H.out.below (ext_alloc (Below.refl _ _)))).mono ?_
  rintro e w1 ⟨rfl, hB1⟩
  obtain ⟨q1, -⟩ := bcell hB1
  go_wp2_with fail
  refine (isNumber_any _ _ (by show l.length ≤ _; omega)).mono ?_
  rw [show isNumB (⟨l.toArray⟩ : ByteArray).data.toList = true from hl]
  rintro e w2 ⟨rfl, hB2⟩
  obtain ⟨q2, -⟩ := bcell hB2
  have z0 : w.heap.size < w1.heap.size := by have := hB1.size; simp at this; omega
  clear hl
  have hw2 : Below w.heap.size w w2 := (by (try show Below _ _ _); repeat (with_reducible first | exact Below.refl _ _ | assumption | exact Hid.out (by assumption) | refine ext_alloc ?_ | refine ext_drewN ?_ | refine ext_drew ?_ | refine ext_setCell ?_ (Nat.le_refl _) | refine ext_setCell ?_ (Nat.le_succ _) | refine ext_trans ?_ (by assumption) | (refine ext_setCell ?_ (by simp)) | (refine ext_setCell ?_ (by simp at *; omega))))
  go_wp2_with (go_at_call 78; refine (within_a _ _ _ _ (by omega) (by omega)).mono ?_; rintro e w' ⟨rfl, rfl⟩)
  refine (classOf_any _ _ _ _ cs _ _ l (H.out.row.below hw2) H.out.sorted hl2).mono ?_
  rintro e w3 ⟨hB3, ⟨c, hc, rfl, hcl⟩ | ⟨rfl, hcl⟩⟩
  · have hfin : Hid (PricePost cs l talk w = fun e w' => Below w.heap.size w w' ∧ e = .returned (.tuple #[.int .i64 (priceI c talk), .int .i64 0])) := by
      funext e w'; simp only [PricePost, hcl]
    have g := H.out.mem hc
    have G := Lib.hid g
    clear g hcl
    go_wp2_with fail
    refine (price_any c talk _ G.out t0 t1).mono ?_
    rintro e w4 ⟨rfl, hB4⟩
    go_wp2_with fail
    go_ret2
    rw [hfin.out]
    exact ⟨(by (try show Below _ _ _); repeat (with_reducible first | exact Below.refl _ _ | assumption | exact Hid.out (by assumption) | refine ext_alloc ?_ | refine ext_drewN ?_ | refine ext_drew ?_ | refine ext_setCell ?_ (Nat.le_refl _) | refine ext_setCell ?_ (Nat.le_succ _) | refine ext_trans ?_ (by assumption) | (refine ext_setCell ?_ (by simp)) | (refine ext_setCell ?_ (by simp at *; omega)))), rfl⟩
  · have hfin : Hid (PricePost cs l talk w = fun e w' => Below w.heap.size w w' ∧ e = .returned (.tuple #[.int .i64 0, .int .i64 8])) := by
      funext e w'; simp only [PricePost, hcl]
    clear hcl
    go_wp2_with fail
    go_ret2
    rw [hfin.out]
    exact ⟨(by (try show Below _ _ _); repeat (with_reducible first | exact Below.refl _ _ | assumption | exact Hid.out (by assumption) | refine ext_alloc ?_ | refine ext_drewN ?_ | refine ext_drew ?_ | refine ext_setCell ?_ (Nat.le_refl _) | refine ext_setCell ?_ (Nat.le_succ _) | refine ext_trans ?_ (by assumption) | (refine ext_setCell ?_ (by simp)) | (refine ext_setCell ?_ (by simp at *; omega)))), rfl⟩
end Go.Proofs.YtamoclofloijpaaGreatDoor

namespace Go.Proofs.YtamoclofloijpaaGreatDoor
open Go.RowKit

/-- What a byte expands to. -/
def expandI (b : Int) : Int :=
  if (255 - b) / 128 = 1 then -(((2 * ((255 - b) % 16) + 33) * 2 ^ ((255 - b) / 16 % 8).toNat - 33) * 4) - 1 else ((2 * ((255 - b) % 16) + 33) * 2 ^ ((255 - b) / 16 % 8).toNat - 33) * 4

theorem all_bytesI {p : Int → Bool} (h : (List.range 256).all (fun n => p (n : Int)) = true) (b : Int) (h0 : 0 ≤ b) (h1 : b ≤ 255) : p b = true := by
  obtain ⟨n, rfl⟩ := Int.eq_ofNat_of_zero_le h0
  exact List.all_eq_true.1 h n (List.mem_range.2 (by omega))

theorem expand_wraps (b : Int) (h0 : 0 ≤ b) (h1 : b ≤ 255) :
    wrap64 (wrap64 (wrap64 ((2 * ((255 - b) % 16) + 33) * 2 ^ ((255 - b) / 16 % 8).toNat) - 33) * 4) = ((2 * ((255 - b) % 16) + 33) * 2 ^ ((255 - b) / 16 % 8).toNat - 33) * 4 ∧
    wrap64 (wrap64 (-wrap64 (wrap64 (wrap64 ((2 * ((255 - b) % 16) + 33) * 2 ^ ((255 - b) / 16 % 8).toNat) - 33) * 4)) - 1) = -(((2 * ((255 - b) % 16) + 33) * 2 ^ ((255 - b) / 16 % 8).toNat - 33) * 4) - 1 := by
  have := all_bytesI (p := fun b => decide (wrap64 (wrap64 (wrap64 ((2 * ((255 - b) % 16) + 33) * 2 ^ ((255 - b) / 16 % 8).toNat) - 33) * 4) = ((2 * ((255 - b) % 16) + 33) * 2 ^ ((255 - b) / 16 % 8).toNat - 33) * 4 ∧
    wrap64 (wrap64 (-wrap64 (wrap64 (wrap64 ((2 * ((255 - b) % 16) + 33) * 2 ^ ((255 - b) / 16 % 8).toNat) - 33) * 4)) - 1) = -(((2 * ((255 - b) % 16) + 33) * 2 ^ ((255 - b) / 16 % 8).toNat - 33) * 4) - 1)) (by decide +kernel) b h0 h1
  exact of_decide_eq_true this

/-- The exponent of a magnitude. -/
def expoTo (m : Int) : Nat → Nat
  | 0 => 7
  | f + 1 => if 2 ^ (7 - (f + 1) + 6) ≤ m then expoTo m f else 7 - (f + 1)
def expo (m : Int) : Nat := expoTo m 7
def magn (s : Int) : Int := min ((if s < 0 then -s - 1 else s) / 4) 8158 + 33
def compI (s : Int) : Int := 255 - ((if s < 0 then 128 else 0) + 16 * (expo (magn s) : Int) + (magn s / 2 ^ (expo (magn s) + 1) - 16))

theorem expoTo_up0 (m : Int) (h : 64 ≤ m) : expoTo m (7 - 0) = expoTo m (7 - 1) := by
  show (if (2 : Int) ^ (7 - (6 + 1) + 6) ≤ m then _ else _) = _
  rw [show (2 : Int) ^ (7 - (6 + 1) + 6) = 64 by decide, if_pos h]
theorem expoTo_out0 (m : Int) (h : ¬ 64 ≤ m) : expoTo m (7 - 0) = 0 := by
  show (if (2 : Int) ^ (7 - (6 + 1) + 6) ≤ m then _ else _) = _
  rw [show (2 : Int) ^ (7 - (6 + 1) + 6) = 64 by decide, if_neg h]
theorem expoTo_up1 (m : Int) (h : 128 ≤ m) : expoTo m (7 - 1) = expoTo m (7 - 2) := by
  show (if (2 : Int) ^ (7 - (5 + 1) + 6) ≤ m then _ else _) = _
  rw [show (2 : Int) ^ (7 - (5 + 1) + 6) = 128 by decide, if_pos h]
theorem expoTo_out1 (m : Int) (h : ¬ 128 ≤ m) : expoTo m (7 - 1) = 1 := by
  show (if (2 : Int) ^ (7 - (5 + 1) + 6) ≤ m then _ else _) = _
  rw [show (2 : Int) ^ (7 - (5 + 1) + 6) = 128 by decide, if_neg h]
theorem expoTo_up2 (m : Int) (h : 256 ≤ m) : expoTo m (7 - 2) = expoTo m (7 - 3) := by
  show (if (2 : Int) ^ (7 - (4 + 1) + 6) ≤ m then _ else _) = _
  rw [show (2 : Int) ^ (7 - (4 + 1) + 6) = 256 by decide, if_pos h]
theorem expoTo_out2 (m : Int) (h : ¬ 256 ≤ m) : expoTo m (7 - 2) = 2 := by
  show (if (2 : Int) ^ (7 - (4 + 1) + 6) ≤ m then _ else _) = _
  rw [show (2 : Int) ^ (7 - (4 + 1) + 6) = 256 by decide, if_neg h]
theorem expoTo_up3 (m : Int) (h : 512 ≤ m) : expoTo m (7 - 3) = expoTo m (7 - 4) := by
  show (if (2 : Int) ^ (7 - (3 + 1) + 6) ≤ m then _ else _) = _
  rw [show (2 : Int) ^ (7 - (3 + 1) + 6) = 512 by decide, if_pos h]
theorem expoTo_out3 (m : Int) (h : ¬ 512 ≤ m) : expoTo m (7 - 3) = 3 := by
  show (if (2 : Int) ^ (7 - (3 + 1) + 6) ≤ m then _ else _) = _
  rw [show (2 : Int) ^ (7 - (3 + 1) + 6) = 512 by decide, if_neg h]
theorem expoTo_up4 (m : Int) (h : 1024 ≤ m) : expoTo m (7 - 4) = expoTo m (7 - 5) := by
  show (if (2 : Int) ^ (7 - (2 + 1) + 6) ≤ m then _ else _) = _
  rw [show (2 : Int) ^ (7 - (2 + 1) + 6) = 1024 by decide, if_pos h]
theorem expoTo_out4 (m : Int) (h : ¬ 1024 ≤ m) : expoTo m (7 - 4) = 4 := by
  show (if (2 : Int) ^ (7 - (2 + 1) + 6) ≤ m then _ else _) = _
  rw [show (2 : Int) ^ (7 - (2 + 1) + 6) = 1024 by decide, if_neg h]
theorem expoTo_up5 (m : Int) (h : 2048 ≤ m) : expoTo m (7 - 5) = expoTo m (7 - 6) := by
  show (if (2 : Int) ^ (7 - (1 + 1) + 6) ≤ m then _ else _) = _
  rw [show (2 : Int) ^ (7 - (1 + 1) + 6) = 2048 by decide, if_pos h]
theorem expoTo_out5 (m : Int) (h : ¬ 2048 ≤ m) : expoTo m (7 - 5) = 5 := by
  show (if (2 : Int) ^ (7 - (1 + 1) + 6) ≤ m then _ else _) = _
  rw [show (2 : Int) ^ (7 - (1 + 1) + 6) = 2048 by decide, if_neg h]
theorem expoTo_up6 (m : Int) (h : 4096 ≤ m) : expoTo m (7 - 6) = expoTo m (7 - 7) := by
  show (if (2 : Int) ^ (7 - (0 + 1) + 6) ≤ m then _ else _) = _
  rw [show (2 : Int) ^ (7 - (0 + 1) + 6) = 4096 by decide, if_pos h]
theorem expoTo_out6 (m : Int) (h : ¬ 4096 ≤ m) : expoTo m (7 - 6) = 6 := by
  show (if (2 : Int) ^ (7 - (0 + 1) + 6) ≤ m then _ else _) = _
  rw [show (2 : Int) ^ (7 - (0 + 1) + 6) = 4096 by decide, if_neg h]
theorem expoTo_out7 (m : Int) : expoTo m (7 - 7) = 7 := rfl

theorem expo_cases (m : Int) (h0 : 33 ≤ m) (h1 : m ≤ 8191) : (32 ≤ m ∧ m < 64 ∧ expo m = 0) ∨ (64 ≤ m ∧ m < 128 ∧ expo m = 1) ∨ (128 ≤ m ∧ m < 256 ∧ expo m = 2) ∨ (256 ≤ m ∧ m < 512 ∧ expo m = 3) ∨ (512 ≤ m ∧ m < 1024 ∧ expo m = 4) ∨ (1024 ≤ m ∧ m < 2048 ∧ expo m = 5) ∨ (2048 ≤ m ∧ m < 4096 ∧ expo m = 6) ∨ (4096 ≤ m ∧ m < 8192 ∧ expo m = 7) := by
  unfold expo
  simp only [expoTo]
  repeat' split
  all_goals omega

theorem magn_range (s : Int) (h0 : -32768 ≤ s) (h1 : s ≤ 32767) : 33 ≤ magn s ∧ magn s ≤ 8191 := by
  unfold magn; split <;> omega

/-- What a byte with a sign, an exponent and a fraction expands to. -/
theorem expand_parts (sg e f : Int) (hs : sg = 0 ∨ sg = 128) (h0 : 0 ≤ e) (h1 : e ≤ 7) (f0 : 0 ≤ f) (f1 : f ≤ 15) :
    expandI (255 - (sg + 16 * e + f)) = if sg = 128 then -(((2 * f + 33) * 2 ^ e.toNat - 33) * 4) - 1 else ((2 * f + 33) * 2 ^ e.toNat - 33) * 4 := by
  unfold expandI
  have a1 : (255 - (255 - (sg + 16 * e + f))) % 16 = f := by omega
  have a2 : (255 - (255 - (sg + 16 * e + f))) / 16 % 8 = e := by omega
  rw [a1, a2]
  rcases hs with rfl | rfl
  · rw [if_neg (by omega), if_neg (by omega)]
  · rw [if_pos (by omega), if_pos rfl]

/-- Where a sample comes to, by its magnitude. -/
def backTo (m : Int) : Int := if m < 64 then (m / 2 * 2 + 1 - 33) * 4 else if m < 128 then (m / 4 * 4 + 2 - 33) * 4 else if m < 256 then (m / 8 * 8 + 4 - 33) * 4 else if m < 512 then (m / 16 * 16 + 8 - 33) * 4 else if m < 1024 then (m / 32 * 32 + 16 - 33) * 4 else if m < 2048 then (m / 64 * 64 + 32 - 33) * 4 else if m < 4096 then (m / 128 * 128 + 64 - 33) * 4 else (m / 256 * 256 + 128 - 33) * 4

theorem comp_back (s : Int) (h0 : -32768 ≤ s) (h1 : s ≤ 32767) : (0 ≤ compI s ∧ compI s ≤ 255) ∧ expandI (compI s) = if s < 0 then -(backTo (magn s)) - 1 else backTo (magn s) := by
  obtain ⟨m0, m1⟩ := magn_range s h0 h1
  unfold compI
  generalize magn s = m at m0 m1
  have hsg : (if s < 0 then (128 : Int) else 0) = 0 ∨ (if s < 0 then (128 : Int) else 0) = 128 := by split <;> omega
  have hsg2 : ((if s < 0 then (128 : Int) else 0) = 128) ↔ s < 0 := by split <;> simp [*]
  generalize (if s < 0 then (128 : Int) else 0) = sg at hsg hsg2
  rcases expo_cases m m0 m1 with ⟨a, b, c⟩ | ⟨a, b, c⟩ | ⟨a, b, c⟩ | ⟨a, b, c⟩ | ⟨a, b, c⟩ | ⟨a, b, c⟩ | ⟨a, b, c⟩ | ⟨a, b, c⟩
  · rw [c]
    have f0 : 0 ≤ m / 2 ^ (0 + 1) - 16 := by omega
    have f1 : m / 2 ^ (0 + 1) - 16 ≤ 15 := by omega
    refine ⟨by omega, ?_⟩
    rw [expand_parts sg ((0 : Nat) : Int) _ hsg (by omega) (by omega) f0 f1]
    have hb : backTo m = ((2 * (m / 2 ^ (0 + 1) - 16) + 33) * 2 ^ ((0 : Nat) : Int).toNat - 33) * 4 := by
      unfold backTo
      simp only [Int.toNat_natCast]
      (repeat rw [if_neg (by omega)])
      (try rw [if_pos (by omega)])
      omega
    rw [hb]
    by_cases hs : s < 0
    · rw [if_pos (hsg2.2 hs), if_pos hs]
    · rw [if_neg (fun h => hs (hsg2.1 h)), if_neg hs]
  · rw [c]
    have f0 : 0 ≤ m / 2 ^ (1 + 1) - 16 := by omega
    have f1 : m / 2 ^ (1 + 1) - 16 ≤ 15 := by omega
    refine ⟨by omega, ?_⟩
    rw [expand_parts sg ((1 : Nat) : Int) _ hsg (by omega) (by omega) f0 f1]
    have hb : backTo m = ((2 * (m / 2 ^ (1 + 1) - 16) + 33) * 2 ^ ((1 : Nat) : Int).toNat - 33) * 4 := by
      unfold backTo
      simp only [Int.toNat_natCast]
      (repeat rw [if_neg (by omega)])
      (try rw [if_pos (by omega)])
      omega
    rw [hb]
    by_cases hs : s < 0
    · rw [if_pos (hsg2.2 hs), if_pos hs]
    · rw [if_neg (fun h => hs (hsg2.1 h)), if_neg hs]
  · rw [c]
    have f0 : 0 ≤ m / 2 ^ (2 + 1) - 16 := by omega
    have f1 : m / 2 ^ (2 + 1) - 16 ≤ 15 := by omega
    refine ⟨by omega, ?_⟩
    rw [expand_parts sg ((2 : Nat) : Int) _ hsg (by omega) (by omega) f0 f1]
    have hb : backTo m = ((2 * (m / 2 ^ (2 + 1) - 16) + 33) * 2 ^ ((2 : Nat) : Int).toNat - 33) * 4 := by
      unfold backTo
      simp only [Int.toNat_natCast]
      (repeat rw [if_neg (by omega)])
      (try rw [if_pos (by omega)])
      omega
    rw [hb]
    by_cases hs : s < 0
    · rw [if_pos (hsg2.2 hs), if_pos hs]
    · rw [if_neg (fun h => hs (hsg2.1 h)), if_neg hs]
  · rw [c]
    have f0 : 0 ≤ m / 2 ^ (3 + 1) - 16 := by omega
    have f1 : m / 2 ^ (3 + 1) - 16 ≤ 15 := by omega
    refine ⟨by omega, ?_⟩
    rw [expand_parts sg ((3 : Nat) : Int) _ hsg (by omega) (by omega) f0 f1]
    have hb : backTo m = ((2 * (m / 2 ^ (3 + 1) - 16) + 33) * 2 ^ ((3 : Nat) : Int).toNat - 33) * 4 := by
      unfold backTo
      simp only [Int.toNat_natCast]
      (repeat rw [if_neg (by omega)])
      (try rw [if_pos (by omega)])
      omega
    rw [hb]
    by_cases hs : s < 0
    · rw [if_pos (hsg2.2 hs), if_pos hs]
    · rw [if_neg (fun h => hs (hsg2.1 h)), if_neg hs]
  · rw [c]
    have f0 : 0 ≤ m / 2 ^ (4 + 1) - 16 := by omega
    have f1 : m / 2 ^ (4 + 1) - 16 ≤ 15 := by omega
    refine ⟨by omega, ?_⟩
    rw [expand_parts sg ((4 : Nat) : Int) _ hsg (by omega) (by omega) f0 f1]
    have hb : backTo m = ((2 * (m / 2 ^ (4 + 1) - 16) + 33) * 2 ^ ((4 : Nat) : Int).toNat - 33) * 4 := by
      unfold backTo
      simp only [Int.toNat_natCast]
      (repeat rw [if_neg (by omega)])
      (try rw [if_pos (by omega)])
      omega
    rw [hb]
    by_cases hs : s < 0
    · rw [if_pos (hsg2.2 hs), if_pos hs]
    · rw [if_neg (fun h => hs (hsg2.1 h)), if_neg hs]
  · rw [c]
    have f0 : 0 ≤ m / 2 ^ (5 + 1) - 16 := by omega
    have f1 : m / 2 ^ (5 + 1) - 16 ≤ 15 := by omega
    refine ⟨by omega, ?_⟩
    rw [expand_parts sg ((5 : Nat) : Int) _ hsg (by omega) (by omega) f0 f1]
    have hb : backTo m = ((2 * (m / 2 ^ (5 + 1) - 16) + 33) * 2 ^ ((5 : Nat) : Int).toNat - 33) * 4 := by
      unfold backTo
      simp only [Int.toNat_natCast]
      (repeat rw [if_neg (by omega)])
      (try rw [if_pos (by omega)])
      omega
    rw [hb]
    by_cases hs : s < 0
    · rw [if_pos (hsg2.2 hs), if_pos hs]
    · rw [if_neg (fun h => hs (hsg2.1 h)), if_neg hs]
  · rw [c]
    have f0 : 0 ≤ m / 2 ^ (6 + 1) - 16 := by omega
    have f1 : m / 2 ^ (6 + 1) - 16 ≤ 15 := by omega
    refine ⟨by omega, ?_⟩
    rw [expand_parts sg ((6 : Nat) : Int) _ hsg (by omega) (by omega) f0 f1]
    have hb : backTo m = ((2 * (m / 2 ^ (6 + 1) - 16) + 33) * 2 ^ ((6 : Nat) : Int).toNat - 33) * 4 := by
      unfold backTo
      simp only [Int.toNat_natCast]
      (repeat rw [if_neg (by omega)])
      (try rw [if_pos (by omega)])
      omega
    rw [hb]
    by_cases hs : s < 0
    · rw [if_pos (hsg2.2 hs), if_pos hs]
    · rw [if_neg (fun h => hs (hsg2.1 h)), if_neg hs]
  · rw [c]
    have f0 : 0 ≤ m / 2 ^ (7 + 1) - 16 := by omega
    have f1 : m / 2 ^ (7 + 1) - 16 ≤ 15 := by omega
    refine ⟨by omega, ?_⟩
    rw [expand_parts sg ((7 : Nat) : Int) _ hsg (by omega) (by omega) f0 f1]
    have hb : backTo m = ((2 * (m / 2 ^ (7 + 1) - 16) + 33) * 2 ^ ((7 : Nat) : Int).toNat - 33) * 4 := by
      unfold backTo
      simp only [Int.toNat_natCast]
      (repeat rw [if_neg (by omega)])
      (try rw [if_pos (by omega)])
      omega
    rw [hb]
    by_cases hs : s < 0
    · rw [if_pos (hsg2.2 hs), if_pos hs]
    · rw [if_neg (fun h => hs (hsg2.1 h)), if_neg hs]

theorem comp_range (s : Int) (h0 : -32768 ≤ s) (h1 : s ≤ 32767) : 0 ≤ compI s ∧ compI s ≤ 255 := (comp_back s h0 h1).1

set_option maxHeartbeats 4000000 in
theorem back_mono (a b : Int) (h : a ≤ b) (h0 : 33 ≤ a) (h1 : b ≤ 8191) : backTo a ≤ backTo b ∧ 0 ≤ backTo a ∧ backTo b ≤ 32124 := by
  unfold backTo
  refine ⟨?_, ?_, ?_⟩ <;> (repeat' split) <;> omega

theorem comp_mono (s t : Int) (h : s ≤ t) (h0 : -32768 ≤ s) (h1 : t ≤ 32767) : expandI (compI s) ≤ expandI (compI t) := by
  rw [(comp_back s h0 (by omega)).2, (comp_back t (by omega) h1).2]
  have ms := magn_range s h0 (by omega)
  have mt := magn_range t (by omega) h1
  by_cases hs : s < 0
  · by_cases ht : t < 0
    · rw [if_pos hs, if_pos ht]
      have : magn t ≤ magn s := by unfold magn; rw [if_pos hs, if_pos ht]; omega
      have := back_mono _ _ this mt.1 ms.2
      omega
    · rw [if_pos hs, if_neg ht]
      have a := back_mono _ _ (Int.le_refl (magn s)) ms.1 ms.2
      have b := back_mono _ _ (Int.le_refl (magn t)) mt.1 mt.2
      omega
  · rw [if_neg hs, if_neg (by omega)]
    have : magn s ≤ magn t := by unfold magn; rw [if_neg hs, if_neg (by omega)]; omega
    exact (back_mono _ _ this ms.1 mt.2).1

theorem comp_near (s : Int) (h0 : -32768 ≤ s) (h1 : s ≤ 32767) : max (expandI (compI s) - s) (s - expandI (compI s)) ≤ max s (-s) / 16 + 132 := by
  rw [(comp_back s h0 h1).2]
  obtain ⟨m0, m1⟩ := magn_range s h0 h1
  by_cases hs : s < 0
  · rw [if_pos hs]
    have hm : magn s = min ((-s - 1) / 4) 8158 + 33 := by unfold magn; rw [if_pos hs]
    generalize magn s = m at *
    unfold backTo
    (repeat' split) <;> omega
  · rw [if_neg hs]
    have hm : magn s = min (s / 4) 8158 + 33 := by unfold magn; rw [if_neg hs]
    generalize magn s = m at *
    unfold backTo
    (repeat' split) <;> omega

theorem expand_sample (b : Int) (h0 : 0 ≤ b) (h1 : b ≤ 255) : -32768 ≤ expandI b ∧ expandI b ≤ 32767 ∧ compI (expandI b) = b :=
  of_decide_eq_true (all_bytesI (p := fun b => decide (-32768 ≤ expandI b ∧ expandI b ≤ 32767 ∧ compI (expandI b) = b)) (by decide +kernel) b h0 h1)
end Go.Proofs.YtamoclofloijpaaGreatDoor

namespace Go.Proofs.YtamoclofloijpaaGreatDoor
open Go.RowKit
set_option linter.unusedVariables false
set_option linter.unusedSimpArgs false

set_option maxHeartbeats 1000000 in
theorem errs_zero (w : World) (b n cap : Nat) (hn : n ≤ 100) (hc : ∀ i, i < n → w.cell? ⟨b, i, none⟩ = some (.int .i64 0)) :
    Calls Tryz.prog 17 #[.slice (some ⟨b, 0, none⟩) n cap] w fun e w' => e = .returned (.int .i64 0) ∧ w = w' := by
  have Hc := Lib.hid hc
  clear hc
  go_enter Tryz.func17, Tryz.ntmps17
  go_wp2_with fail
  go_loop [7] (fun i => ∃ k : Nat, k ≤ n ∧ i = .int .i64 k) (fun i => n - (intOf i).toNat)
  case atStart => exact ⟨0, Nat.zero_le _, rfl⟩
  case round =>
    obtain ⟨k, hk, rfl⟩ := hrel
    by_cases hlt : k < n
    · have hc := Hc.out k hlt
      go_wp2_with fail
      go_round
      case rel => exact ⟨k + 1, by omega, by go_num⟩
      case measure => simp [intOf]; omega
    · go_wp2_with fail
      go_ret
      exact ⟨rfl, rfl⟩

theorem expand_any (b : Int) (w : World) (h0 : 0 ≤ b) (h1 : b ≤ 255) :
    Calls Tryz.prog 31 #[.int .u8 b] w fun e w' => e = .returned (.int .i64 (expandI b)) ∧ w = w' := by
  have hw := Lib.hid (expand_wraps b h0 h1)
  by_cases hs : (255 - b) / 128 = 1
  · have hd : Hid (expandI b = -(((2 * ((255 - b) % 16) + 33) * 2 ^ ((255 - b) / 16 % 8).toNat - 33) * 4) - 1) := by show expandI b = _; unfold expandI; rw [if_pos hs]
    have hs2 : ((255 - b) / 128 == 1) = true := by simpa using hs
    clear hs
    go_enter Tryz.func31, Tryz.ntmps31
    go_wp2_with fail
    go_ret
    exact ⟨ret_int (by rw [hd.out]; exact hw.out.2), rfl⟩
  · have hd : Hid (expandI b = ((2 * ((255 - b) % 16) + 33) * 2 ^ ((255 - b) / 16 % 8).toNat - 33) * 4) := by show expandI b = _; unfold expandI; rw [if_neg hs]
    have hs2 : ((255 - b) / 128 == 1) = false := by simpa using hs
    clear hs
    go_enter Tryz.func31, Tryz.ntmps31
    go_wp2_with fail
    go_ret
    exact ⟨ret_int (by rw [hd.out]; exact hw.out.1), rfl⟩

def aClass : Cls := ⟨[43, 49], [97], 0, 0, 1000, 7⟩
theorem aClass_good : GoodCls aClass := ⟨by decide, by decide, by decide, by decide, by decide, by decide, by decide, by decide, by decide, by decide, by decide, by decide⟩

theorem ready_tariff (w : World) (b : Nat) (hb : b < w.heap.size) (h0 : w.cell? ⟨b, 0, none⟩ = some (.string ⟨#[43, 49]⟩)) (h1 : w.cell? ⟨b, 1, none⟩ = some (.string ⟨#[97]⟩)) (h2 : w.cell? ⟨b, 2, none⟩ = some (.int .i64 0)) (h3 : w.cell? ⟨b, 3, none⟩ = some (.int .i64 0)) (h4 : w.cell? ⟨b, 4, none⟩ = some (.int .i64 1000)) (h5 : w.cell? ⟨b, 5, none⟩ = some (.int .i64 7)) :
    TariffAt w (some ⟨b, 0, none⟩) 1 [aClass] 0 none 0 [] where
  row := ⟨rfl, by omega, Or.inr ⟨b, 0, rfl, hb, fun i hi j hj => by
    obtain rfl : i = 0 := by omega
    match j, hj with
    | 0, _ => exact h0
    | 1, _ => exact h1
    | 2, _ => exact h2
    | 3, _ => exact h3
    | 4, _ => exact h4
    | 5, _ => exact h5⟩⟩
  good := fun i hi => by
    obtain rfl : i = 0 := by omega
    exact aClass_good
  sorted := fun i h0 h1 => by simp at h1; omega
  ins := ⟨rfl, by omega, Or.inl rfl⟩
  keys := fun i hi => by omega
  order := fun i h0 h1 => by omega
  free0 := by omega
  free1 := by omega

set_option maxHeartbeats 1000000 in
theorem price_ready (w : World) (b : Nat) (hb : b < w.heap.size) (h0 : w.cell? ⟨b, 0, none⟩ = some (.string ⟨#[43, 49]⟩)) (h1 : w.cell? ⟨b, 1, none⟩ = some (.string ⟨#[97]⟩)) (h2 : w.cell? ⟨b, 2, none⟩ = some (.int .i64 0)) (h3 : w.cell? ⟨b, 3, none⟩ = some (.int .i64 0)) (h4 : w.cell? ⟨b, 4, none⟩ = some (.int .i64 1000)) (h5 : w.cell? ⟨b, 5, none⟩ = some (.int .i64 7)) :
    Calls Tryz.prog 30 #[.agg #[.slice (some ⟨b, 0, none⟩) 1 1, .int .i64 0, .slice none 0 0], .string ⟨#[43, 49, 50, 48, 48]⟩, .int .i64 1500] w fun e w' => e = .returned (.tuple #[.int .i64 14, .int .i64 0]) ∧ Below w.heap.size w w' := by
  refine (price_at (ready_tariff w b hb h0 h1 h2 h3 h4 h5) [43, 49, 50, 48, 48] (by decide) (by decide) 1500 (by omega) (by omega)).mono ?_
  rintro e w' ⟨hB, rfl⟩
  exact ⟨rfl, hB⟩

theorem expand_128 (w : World) : Calls Tryz.prog 31 #[.int .u8 128] w fun e w' => e = .returned (.int .i64 32124) ∧ w = w' := expand_any 128 w (by omega) (by omega)

set_option maxRecDepth 100000 in
set_option maxHeartbeats 2000000 in
theorem ready_true (w : World) (ht : TabAt w) : Calls Tryz.prog 11 #[] w fun e w' => e = .returned (.bool true) ∧ Below w.heap.size w w' := by
  have HT := Lib.hid ht
  clear ht
  go_enter Tryz.func11, Tryz.ntmps11
  go_wp2_with fail
  refine (least_ready _ HT.out).mono ?_
  rintro e w1 ⟨rfl, hB1⟩
  go_wp2_with fail
  refine (present_ready _).mono ?_
  rintro e w2 ⟨rfl, hB2⟩
  go_wp2_with fail
  refine (ends_ready _).mono ?_
  rintro e w3 ⟨rfl, hB3⟩
  go_wp2_with fail
  refine (price_ready _ _ ?_ ?_ ?_ ?_ ?_ ?_ ?_).mono ?_
  · simp
  iterate 6 (focus (go_simp; done))
  rintro e w4 ⟨rfl, hB4⟩
  go_wp2_with fail
  refine (errs_zero _ _ 4 4 (by omega) ?_).mono ?_
  · intro i hi
    match i, hi with
    | 0, _ => go_simp
    | 1, _ => go_simp
    | 2, _ => go_simp
    | 3, _ => go_simp
  rintro e w5 ⟨rfl, rfl⟩
  go_wp2_with fail
  refine (expand_128 _).mono ?_
  rintro e w6 ⟨rfl, rfl⟩
  go_wp2_with fail
  go_ret
  exact ⟨rfl, (by (try show Below _ _ _); repeat (with_reducible first | exact Below.refl _ _ | assumption | exact Hid.out (by assumption) | refine ext_alloc ?_ | refine ext_drewN ?_ | refine ext_drew ?_ | refine ext_setCell ?_ (Nat.le_refl _) | refine ext_setCell ?_ (Nat.le_succ _) | refine ext_trans ?_ (by assumption) | (refine ext_setCell ?_ (by simp)) | (refine ext_setCell ?_ (by simp at *; omega))))⟩
end Go.Proofs.YtamoclofloijpaaGreatDoor

set_option linter.unusedVariables false
set_option linter.unusedSimpArgs false
namespace Go.Proofs.YtamoclofloijpaaGreatDoor
open Go.RowKit Go.Sort Go.Lib

def annB : List UInt8 := [97, 110, 110]
theorem annKey : isKeyB [97, 110, 110] = true := by decide +kernel
theorem build_win (e : Operand → Value) (o : Oper) (w : World) (z0 z1 : Int) (ho : o.op = .build 30 #[(0, .tmp 21), (1, .tmp 23)]) (h0 : e (.tmp 21) = .int .i64 z0) (h1 : e (.tmp 23) = .int .i64 z1) :
   (execOp e o).run Tryz.prog w = .ok (.value (.agg #[.int .i64 z0, .int .i64 z1])) w := by
  unfold execOp
  rw [ho]
  simp only [List.map_toArray, List.map_cons, List.map_nil, h0, h1]
  kernel_rfl
theorem thrStep_len (s : Option Vbcn) (a z : Int) (o : List Vbcn × Vbcn) : (thrStep s a z o).1.length ≤ o.1.length + 1 := by
  unfold thrStep
  cases s with
  | none => simp
  | some b =>
    simp only
    split
    · simp
    · simp
theorem thrN_len (l : List Vbcn) (per : List UInt8) (E : List Int) : ∀ k, (thrN l per E k).1.length ≤ k
  | 0 => Nat.le_refl _
  | k + 1 => by
    unfold thrN
    have := thrStep_len (saysB l per (E.getD k 0)) (E.getD k 0) (E.getD (k + 1) 0) (thrN l per E k)
    have := thrN_len l per E k
    omega
theorem thrL_len (l : List Vbcn) (per : List UInt8) (E : List Int) : (thrL l per E).length ≤ E.length := by
  unfold thrL
  have := thrN_len l per E (E.length - 1)
  omega
set_option maxRecDepth 100000 in
set_option maxHeartbeats 80000000 in
theorem prs_true (w : World) (a0 : Option Addr) (len cap : Nat) (zs : List Int) (hr : ArgRow w a0 len cap zs) (ht : TabAt w) (hU : U8W w.heap.size w) :
    Calls Tryz.prog 3 #[.slice a0 len cap] w fun e w' => e = .returned (.bool true) ∧ Below w.heap.size w w' := by
  have HS0 := Lib.hid (stream_start hr)
  have HT0 : Hid (TabAt (w.alloc (.cells #[.slice a0 len cap, .int .i64 0] 25))) := ht.below (ext_alloc (Below.refl _ _))
  have HTN : Hid (2 ≠ w.heap.size) := by have := ht.1; show _ ≠ _; omega
  have HU0 : Hid (U8W w.heap.size (w.alloc (.cells #[.slice a0 len cap, .int .i64 0] 25))) := hU.below (ext_alloc (Below.refl _ _)) (Nat.le_refl _)
  have HEND : Hid (∀ W, Keeps w.heap.size (w.alloc (.cells #[.slice a0 len cap, .int .i64 0] 25)) W → Below w.heap.size w W) := fun W h => law_end h
  have hsz : w.heap.size < (w.alloc (.cells #[.slice a0 len cap, .int .i64 0] 25)).heap.size := by simp
  have HK0 : Hid (Keeps w.heap.size (w.alloc (.cells #[.slice a0 len cap, .int .i64 0] 25)) (w.alloc (.cells #[.slice a0 len cap, .int .i64 0] 25))) := Keeps.refl _ _
  clear hr ht hU
  go_enter Tryz.func3, Tryz.ntmps3
  go_wp2_with fail
  refine (range_any w.heap.size 0 0 9 _ HS0.out (by omega) (by omega) (by omega) (by omega)).mono ?_
  rintro e w1 ⟨m, rfl, hm0, hm1, hst, hk'⟩
  obtain ⟨mn, rfl⟩ := Int.eq_ofNat_of_zero_le hm0
  have hmn : mn ≤ 10 := by omega
  have HS1 := Lib.hid hst
  have HK1 := Lib.hid hk'
  have hs1 : w.heap.size < w1.heap.size := Nat.lt_of_lt_of_le hsz hk'.size
  have HU1 := Lib.hid (HU0.out.keeps hk' hsz)
  clear hst hk' HS0 hm0 hm1
  as_aux_lemma =>
    go_wp2_with fail
    refine (rightBcns_any w.heap.size (0 + 1) mn _ HS1.out HU1.out (by omega) hmn).mono ?_
    rintro e w2 ⟨v4, x, rfl, hrow, hxl, hab, hok, hst, hk'⟩
    have HS2 := Lib.hid hst
    have HK2 := Lib.hid (HK1.out.trans hk')
    have hs2 : w.heap.size < w2.heap.size := Nat.lt_of_lt_of_le hs1 hk'.size
    have HXR : Hid (∀ W, Keeps w.heap.size w2 W → VbcnRow W w1.heap.size v4 x) := fun W hW => own_keeps hrow hW hs1
    have HOK := Lib.hid hok
    have HAB := Lib.hid hab
    have hx10 : x.length ≤ 10 := by omega
    clear hst hk' hrow hok hab HS1 HK1 HU1 hxl
    as_aux_lemma =>
      go_wp2_with fail
      refine (range_any w.heap.size (0 + 1 + 1000) 0 10 _ HS2.out (by omega) (by omega) (by omega) (by omega)).mono ?_
      rintro e w3 ⟨a, rfl, ha0, ha1, hst, hk'⟩
      have HS3 := Lib.hid hst
      have HK23 := Lib.hid hk'
      clear hst hk' HS2
      as_aux_lemma =>
        go_wp2_with fail
        refine (range_any w.heap.size (0 + 1 + 1000 + 1) 10 120 _ HS3.out (by omega) (by omega) (by omega) (by omega)).mono ?_
        rintro e w4 ⟨z, rfl, hz0, hz1, hst, hk'⟩
        have hba : Below w4.heap.size w4 (w4.alloc (.cells #[.int .i64 a, .int .i64 z] 30)) := ext_alloc (Below.refl _ _)
        have HS5 := Lib.hid (hst.below hba)
        have HK25 := Lib.hid ((HK23.out.trans hk').trans (Keeps.of_below hba))
        have HP5 : Hid (Blk (w4.alloc (.cells #[.int .i64 a, .int .i64 z] 30)) w4.heap.size [.int .i64 a, .int .i64 z] 30) := Blk.new _ _ _
        have hP : w.heap.size < w4.heap.size := Nat.lt_of_lt_of_le hs2 (HK23.out.trans hk').size
        clear hst hk' HS3 HK23 hba
        as_aux_lemma =>
          go_upto_region 3 with (refine wpList_val rfl (build_win _ _ _ a z rfl rfl rfl) ?_)
          generalize (w4.alloc (.cells #[.int .i64 a, .int .i64 z] 30)) = w5 at HS5 HK25 HP5 ⊢
          generalize w4.heap.size = P at HP5 hP ⊢
          have hs5 : w.heap.size < w5.heap.size := Nat.lt_of_lt_of_le hs2 HK25.out.size
          have HTH := Lib.hid (through_any w.heap.size w5 (HU0.out.keeps (HK2.out.trans HK25.out) hsz) (Nat.le_of_lt hs5) w1.heap.size v4 x (HXR.out w5 HK25.out) hx10 HOK.out HAB.out [97, 110, 110] annKey (by decide) a z (by omega) (by omega) (by omega))
          have p0 := HP5.out.cell 0 rfl
          have p1 := HP5.out.cell 1 rfl
          as_aux_lemma =>
            go_wp2_with fail
            refine HTH.out.mono ?_
            rintro e w6 ⟨v6, rfl, hrv, hb6⟩
            have HVR : Hid (VbcnRow w6 w5.heap.size v6 (thrL x [97, 110, 110] (edgL x [97, 110, 110] a z))) := hrv
            have HLAW : Hid (∀ t, a ≤ t → t < z → _) := fun t h1 h2 => thr_law (edgL_edges x [97, 110, 110] a z) (by omega) (by decide) (t := t) h1 h2
            obtain ⟨TL, hTL⟩ : ∃ TL, TL = thrL x [97, 110, 110] (edgL x [97, 110, 110] a z) := ⟨_, rfl⟩
            rw [← hTL] at HVR HLAW
            have hTl : TL.length ≤ 1000 := by
              rw [hTL]
              have h1 := thrL_len x [97, 110, 110] (edgL x [97, 110, 110] a z)
              have h2 := edgL_len x [97, 110, 110] a z
              omega
            clear hTL
            have HK26 := Lib.hid (HK25.out.trans (Keeps.of_below hb6))
            have HS6 := Lib.hid (HS5.out.below hb6)
            have HP6 := Lib.hid (HP5.out.below hb6)
            have hs6 : w.heap.size < w6.heap.size := Nat.lt_of_lt_of_le hs5 hb6.size
            have HPR : Hid (∀ W, Keeps w.heap.size w6 W → ∀ t, 0 ≤ t → t ≤ 130 → Calls Tryz.prog 8 #[v4, .string ⟨#[97, 110, 110]⟩, .int .i64 t] W (fun e w' => e = .returned (.tuple #[((saysB x [97, 110, 110] t).getD noVbcn).val, .bool (saysB x [97, 110, 110] t).isSome, .int .i64 0]) ∧ Below W.heap.size W w')) := fun W hW t h1 h2 => presence_any w.heap.size W (HU0.out.keeps ((HK2.out.trans HK26.out).trans hW) hsz) (Nat.le_trans (Nat.le_of_lt hs6) hW.size) w1.heap.size v4 x (HXR.out W (HK26.out.trans hW)) hx10 HOK.out HAB.out [97, 110, 110] annKey (by decide) t (by unfold isMomB; simp; omega)
            have HIX : Hid (∀ W, Keeps w.heap.size w6 W → ∀ t A, A < W.heap.size → W.cell? ⟨A, 0, none⟩ = some (.int .i64 t) → Calls Tryz.prog 9 #[v6, .func (.func 10) #[] #[.pointer (some ⟨A, 0, none⟩)]] W (fun e w' => e = .returned (.int .i64 (idxInt (TL.findIdx? fun s => decide (s.at_ ≤ t) && decide (t < s.til)))) ∧ Below W.heap.size W w')) := fun W hW t A hA hc => idxB_any 10 _ (enters_of Tryz.func10 (by kernel_rfl) rfl) W w5.heap.size v6 TL (own_keeps HVR.out hW hs5) hTl _ (tell_pred t A W hA hc)
            have HWN : Hid (∀ W, Keeps w.heap.size w6 W → Blk W P [.int .i64 a, .int .i64 z] 30) := fun W hW => HP6.out.keeps hW (by omega)
            have HFIN : Hid (∀ W, Keeps w.heap.size w6 W → Below w.heap.size w W ∧ TabAt W) := fun W hW => ⟨HEND.out W ((HK2.out.trans HK26.out).trans hW), HT0.out.keeps ((HK2.out.trans HK26.out).trans hW) HTN.out⟩
            clear hrv hb6 HTH HK25 HS5 HP5 p0 p1 HU0 HK0 HK2 HXR HOK HAB HT0 HEND HTN HK26 HP6 hTl hx10
            as_aux_lemma =>
              go_wp2_with fail
              go_loopw [33] (fun it wr => ∃ j : Nat, j ≤ 5 ∧ it = .int .i64 j ∧ Hid (StreamOk wr w.heap.size (1003 + j)) ∧ Hid (Keeps w.heap.size w6 wr)) (fun it _ => 5 - (intOf it).toNat)
              case atStart => exact ⟨0, by omega, rfl, HS6.out.mono (by omega), Keeps.refl _ _⟩
              case round =>
                clear HS6
                obtain ⟨j, hj, rfl, HSW, HKW⟩ := hrel
                by_cases hlt : j < 5
                case neg =>
                  obtain rfl : j = 5 := by omega
                  have HTB := Lib.hid (HFIN.out wr HKW.out).2
                  clear HPR HIX HLAW HWN HVR
                  as_aux_lemma =>
                    go_wp2_with fail
                    refine (ready_true _ HTB.out).mono ?_
                    rintro e wy ⟨rfl, hb⟩
                    have HF := Lib.hid (HFIN.out wy (HKW.out.trans (Keeps.of_below hb))).1
                    clear hb HFIN HKW HSW
                    as_aux_lemma =>
                      go_wp2_with fail
                      go_ret
                      exact ⟨rfl, HF.out⟩
                have hlti : (j : Int) < 5 := by omega
                clear HFIN
                as_aux_lemma =>
                  go_wp2_with fail
                  refine (range_any w.heap.size (1003 + j) 0 130 _ HSW.out (by omega) (by omega) (by omega) (by omega)).mono ?_
                  rintro e w7 ⟨t, rfl, ht0, ht1, hst, hk'⟩
                  have hba : Below w7.heap.size w7 (w7.alloc (.cells #[.int .i64 t] 3)) := ext_alloc (Below.refl _ _)
                  have HS8 : Hid (StreamOk (w7.alloc (.cells #[.int .i64 t] 3)) w.heap.size (1003 + (j + 1))) := (hst.below hba).mono (by omega)
                  have HK8 := Lib.hid ((HKW.out.trans hk').trans (Keeps.of_below hba))
                  have HA8 : Hid (Blk (w7.alloc (.cells #[.int .i64 t] 3)) w7.heap.size [.int .i64 t] 3) := Blk.new _ _ _
                  clear hst hk' HSW HKW hba
                  as_aux_lemma =>
                    go_upto_region 9 with (fail)
                    generalize (w7.alloc (.cells #[.int .i64 t] 3)) = w8 at HS8 HK8 HA8 ⊢
                    generalize w7.heap.size = A at HA8 ⊢
                    have p0 := (HWN.out w8 HK8.out).cell 0 rfl
                    have p1 := (HWN.out w8 HK8.out).cell 1 rfl
                    have c0 := HA8.out.cell 0 rfl
                    clear HWN
                    by_cases h1 : t < a
                    case pos =>
                      have HSX := HS8
                      have HKX := HK8
                      clear HPR HIX HLAW HVR HS8 HK8 HA8
                      as_aux_lemma =>
                        go_wp2_with fail
                        go_roundw
                        case rel => exact ⟨j + 1, by omega, by go_num, HSX.out, HKX.out⟩
                        case measure => simp [intOf]; omega
                    have h1b : ¬ t < a := h1
                    by_cases h2 : z ≤ t
                    case pos =>
                      have HSX := HS8
                      have HKX := HK8
                      clear HPR HIX HLAW HVR HS8 HK8 HA8
                      as_aux_lemma =>
                        go_wp2_with fail
                        go_roundw
                        case rel => exact ⟨j + 1, by omega, by go_num, HSX.out, HKX.out⟩
                        case measure => simp [intOf]; omega
                    have h2b : ¬ z ≤ t := h2
                    rcases HLAW.out t (by omega) (by omega) with ⟨hfi, hsy⟩ | ⟨ix, b, hfi, hil, hsy, hxs, hxd, hxn⟩
                    · skip
                      clear HLAW HVR
                      have HPC := Lib.hid (HPR.out w8 HK8.out t ht0 ht1)
                      rw [hsy] at HPC
                      have HPC : Hid (Calls Tryz.prog 8 #[v4, .string ⟨#[97, 110, 110]⟩, .int .i64 t] w8 (fun e w' => e = .returned (.tuple #[.agg #[.string ⟨#[]⟩, .string ⟨#[]⟩, .int .i64 0, .int .i64 0, .int .i64 0, .string ⟨#[]⟩], .bool false, .int .i64 0]) ∧ Below w8.heap.size w8 w')) := HPC
                      have HIC : Hid (∀ W, Keeps w.heap.size w6 W → W.cell? ⟨A, 0, none⟩ = some (.int .i64 t) → A < W.heap.size → Calls Tryz.prog 9 #[v6, .func (.func 10) #[] #[.pointer (some ⟨A, 0, none⟩)]] W (fun e w' => e = .returned (.int .i64 (-1)) ∧ Below W.heap.size W w')) := fun W hW hc hA => by
                        have h9 := HIX.out W hW t A hA hc
                        rw [hfi] at h9
                        exact h9
                      clear hsy hfi HPR HIX
                      as_aux_lemma =>
                        go_wp2_with fail
                        refine HPC.out.mono ?_
                        rintro e w9 ⟨rfl, hb9⟩
                        have hba : Below w9.heap.size w9 (w9.alloc (.cells #[.string ⟨#[]⟩, .string ⟨#[]⟩, .int .i64 0, .int .i64 0, .int .i64 0, .string ⟨#[]⟩] 35)) := ext_alloc (Below.refl _ _)
                        have hb9a := ext_trans hb9 hba
                        have HS9 := Lib.hid (HS8.out.below hb9a)
                        have HK9 := Lib.hid (HK8.out.trans (Keeps.of_below hb9a))
                        have HA9 := Lib.hid (HA8.out.below hb9a)
                        have HT9 : Hid (Blk (w9.alloc (.cells #[.string ⟨#[]⟩, .string ⟨#[]⟩, .int .i64 0, .int .i64 0, .int .i64 0, .string ⟨#[]⟩] 35)) w9.heap.size [.string ⟨#[]⟩, .string ⟨#[]⟩, .int .i64 0, .int .i64 0, .int .i64 0, .string ⟨#[]⟩] 35) := Blk.new _ _ _
                        clear hba hb9 hb9a HS8 HK8 HA8 HPC
                        as_aux_lemma =>
                          go_upto_region 11 with (fail)
                          generalize (w9.alloc (.cells #[.string ⟨#[]⟩, .string ⟨#[]⟩, .int .i64 0, .int .i64 0, .int .i64 0, .string ⟨#[]⟩] 35)) = wa at HS9 HK9 HA9 HT9 ⊢
                          generalize w9.heap.size = T at HT9 ⊢
                          have HIC2 := Lib.hid (HIC.out wa HK9.out (HA9.out.cell 0 rfl) HA9.out.lt)
                          clear HIC
                          as_aux_lemma =>
                            go_wp2_with fail
                            refine HIC2.out.mono ?_
                            rintro e w10 ⟨rfl, hb10⟩
                            have HS10 := Lib.hid (HS9.out.below hb10)
                            have HK10 := Lib.hid (HK9.out.trans (Keeps.of_below hb10))
                            have HT10 := Lib.hid (HT9.out.below hb10)
                            clear hb10 HS9 HK9 HA9 HT9 HIC2
                            as_aux_lemma =>
                              go_upto_region 12 with (fail)
                              have HSd := Lib.hid (HS10.out.below (ext_drew (Below.refl w10.heap.size w10)))
                              have HKd := Lib.hid (HK10.out.trans (Keeps.of_below (ext_drew (Below.refl w10.heap.size w10))))
                              clear HS10 HK10 HT10
                              as_aux_lemma =>
                                refine region_seqI (S := fun W9 => Below w10.drew.heap.size w10.drew W9) [(true, 0), (true, 1), (true, 2), (true, 3), (true, 4), (true, 5), (true, 6), (true, 7), (true, 8), (true, 9), (true, 10), (true, 11), (true, 12), (true, 13), (true, 14), (true, 15), (true, 16), (true, 17), (true, 18), (true, 19), (true, 20), (true, 21), (true, 22), (true, 23), (true, 24), (true, 25), (true, 26), (true, 27), (true, 28), (true, 29), (true, 30), (true, 31), (true, 32), (true, 33), (true, 34), (true, 35), (true, 36), (true, 37), (true, 38), (true, 39), (true, 40)] (by kernel_rfl) (by kernel_rfl) rfl (by kernel_rfl) (Below.refl _ _) ?_
                                generalize w10.drew = wd at HKd HSd ⊢
                                simp only [seqOps, List.getD_cons_zero, List.getD_cons_succ]
                                refine seqI_take (v := .int .i64 0) rfl (fun W9 hW => by clear hW; go_simp) (fun _ _ _ h => h) ?_
                                simp only [Act.put, List.setIfInBounds_toArray, List.set_cons_zero, List.set_cons_succ]
                                refine seqI_take (v := .bool false) rfl (fun W9 hW => by clear hW; go_simp) (fun _ _ _ h => h) ?_
                                simp only [Act.put, List.setIfInBounds_toArray, List.set_cons_zero, List.set_cons_succ]
                                refine seqI_take (v := .bool false) rfl (fun W9 hW => by clear hW; go_simp) (fun _ _ _ h => h) ?_
                                simp only [Act.put, List.setIfInBounds_toArray, List.set_cons_zero, List.set_cons_succ]
                                refine seqI_take (v := .bool false) rfl (fun W9 hW => by clear hW; go_simp) (fun _ _ _ h => h) ?_
                                simp only [Act.put, List.setIfInBounds_toArray, List.set_cons_zero, List.set_cons_succ]
                                refine seqI_take (v := .int .i64 (-1)) rfl (fun W9 hW => by clear hW; go_simp) (fun _ _ _ h => h) ?_
                                simp only [Act.put, List.setIfInBounds_toArray, List.set_cons_zero, List.set_cons_succ]
                                refine seqI_take (v := .bool false) rfl (fun W9 hW => by clear hW; go_simp) (fun _ _ _ h => h) ?_
                                simp only [Act.put, List.setIfInBounds_toArray, List.set_cons_zero, List.set_cons_succ]
                                refine seqI_take (v := .bool false) rfl (fun W9 hW => by clear hW; go_simp) (fun _ _ _ h => h) ?_
                                simp only [Act.put, List.setIfInBounds_toArray, List.set_cons_zero, List.set_cons_succ]
                                refine seqI_take (v := .bool false) rfl (fun W9 hW => by clear hW; go_simp) (fun _ _ _ h => h) ?_
                                simp only [Act.put, List.setIfInBounds_toArray, List.set_cons_zero, List.set_cons_succ]
                                refine seqI_take (v := .bool false) rfl (fun W9 hW => by clear hW; go_simp) (fun _ _ _ h => h) ?_
                                simp only [Act.put, List.setIfInBounds_toArray, List.set_cons_zero, List.set_cons_succ]
                                refine seqI_take (v := .bool false) rfl (fun W9 hW => by clear hW; go_simp) (fun _ _ _ h => h) ?_
                                simp only [Act.put, List.setIfInBounds_toArray, List.set_cons_zero, List.set_cons_succ]
                                refine seqI_take (v := .bool false) rfl (fun W9 hW => by clear hW; go_simp) (fun _ _ _ h => h) ?_
                                simp only [Act.put, List.setIfInBounds_toArray, List.set_cons_zero, List.set_cons_succ]
                                refine seqI_skip rfl (fun _ _ _ h => h) ?_
                                simp only [Act.put, List.setIfInBounds_toArray, List.set_cons_zero, List.set_cons_succ]
                                refine seqI_skip rfl (fun _ _ _ h => h) ?_
                                simp only [Act.put, List.setIfInBounds_toArray, List.set_cons_zero, List.set_cons_succ]
                                refine seqI_skip rfl (fun _ _ _ h => h) ?_
                                simp only [Act.put, List.setIfInBounds_toArray, List.set_cons_zero, List.set_cons_succ]
                                refine seqI_skip rfl (fun _ _ _ h => h) ?_
                                simp only [Act.put, List.setIfInBounds_toArray, List.set_cons_zero, List.set_cons_succ]
                                refine seqI_skip rfl (fun _ _ _ h => h) ?_
                                simp only [Act.put, List.setIfInBounds_toArray, List.set_cons_zero, List.set_cons_succ]
                                refine seqI_skip rfl (fun _ _ _ h => h) ?_
                                simp only [Act.put, List.setIfInBounds_toArray, List.set_cons_zero, List.set_cons_succ]
                                refine seqI_skip rfl (fun _ _ _ h => h) ?_
                                simp only [Act.put, List.setIfInBounds_toArray, List.set_cons_zero, List.set_cons_succ]
                                refine seqI_skip rfl (fun _ _ _ h => h) ?_
                                simp only [Act.put, List.setIfInBounds_toArray, List.set_cons_zero, List.set_cons_succ]
                                refine seqI_skip rfl (fun _ _ _ h => h) ?_
                                simp only [Act.put, List.setIfInBounds_toArray, List.set_cons_zero, List.set_cons_succ]
                                refine seqI_skip rfl (fun _ _ _ h => h) ?_
                                simp only [Act.put, List.setIfInBounds_toArray, List.set_cons_zero, List.set_cons_succ]
                                refine seqI_skip rfl (fun _ _ _ h => h) ?_
                                simp only [Act.put, List.setIfInBounds_toArray, List.set_cons_zero, List.set_cons_succ]
                                refine seqI_skip rfl (fun _ _ _ h => h) ?_
                                simp only [Act.put, List.setIfInBounds_toArray, List.set_cons_zero, List.set_cons_succ]
                                refine seqI_skip rfl (fun _ _ _ h => h) ?_
                                simp only [Act.put, List.setIfInBounds_toArray, List.set_cons_zero, List.set_cons_succ]
                                refine seqI_skip rfl (fun _ _ _ h => h) ?_
                                simp only [Act.put, List.setIfInBounds_toArray, List.set_cons_zero, List.set_cons_succ]
                                refine seqI_skip rfl (fun _ _ _ h => h) ?_
                                simp only [Act.put, List.setIfInBounds_toArray, List.set_cons_zero, List.set_cons_succ]
                                refine seqI_skip rfl (fun _ _ _ h => h) ?_
                                simp only [Act.put, List.setIfInBounds_toArray, List.set_cons_zero, List.set_cons_succ]
                                refine seqI_skip rfl (fun _ _ _ h => h) ?_
                                simp only [Act.put, List.setIfInBounds_toArray, List.set_cons_zero, List.set_cons_succ]
                                refine seqI_skip rfl (fun _ _ _ h => h) ?_
                                simp only [Act.put, List.setIfInBounds_toArray, List.set_cons_zero, List.set_cons_succ]
                                refine seqI_skip rfl (fun _ _ _ h => h) ?_
                                simp only [Act.put, List.setIfInBounds_toArray, List.set_cons_zero, List.set_cons_succ]
                                refine seqI_skip rfl (fun _ _ _ h => h) ?_
                                simp only [Act.put, List.setIfInBounds_toArray, List.set_cons_zero, List.set_cons_succ]
                                refine seqI_skip rfl (fun _ _ _ h => h) ?_
                                simp only [Act.put, List.setIfInBounds_toArray, List.set_cons_zero, List.set_cons_succ]
                                refine seqI_skip rfl (fun _ _ _ h => h) ?_
                                simp only [Act.put, List.setIfInBounds_toArray, List.set_cons_zero, List.set_cons_succ]
                                refine seqI_skip rfl (fun _ _ _ h => h) ?_
                                simp only [Act.put, List.setIfInBounds_toArray, List.set_cons_zero, List.set_cons_succ]
                                refine seqI_skip rfl (fun _ _ _ h => h) ?_
                                simp only [Act.put, List.setIfInBounds_toArray, List.set_cons_zero, List.set_cons_succ]
                                refine seqI_skip rfl (fun _ _ _ h => h) ?_
                                simp only [Act.put, List.setIfInBounds_toArray, List.set_cons_zero, List.set_cons_succ]
                                refine seqI_skip rfl (fun _ _ _ h => h) ?_
                                simp only [Act.put, List.setIfInBounds_toArray, List.set_cons_zero, List.set_cons_succ]
                                refine seqI_skip rfl (fun _ _ _ h => h) ?_
                                simp only [Act.put, List.setIfInBounds_toArray, List.set_cons_zero, List.set_cons_succ]
                                refine seqI_skip rfl (fun _ _ _ h => h) ?_
                                simp only [Act.put, List.setIfInBounds_toArray, List.set_cons_zero, List.set_cons_succ]
                                refine seqI_take (v := .bool false) rfl (fun W9 hW => by clear hW; go_simp) (fun _ _ _ h => h) ?_
                                simp only [Act.put, List.setIfInBounds_toArray, List.set_cons_zero, List.set_cons_succ]
                                refine seqI_take (v := .bool false) rfl (fun W9 hW => by clear hW; go_simp) (fun _ _ _ h => h) ?_
                                simp only [Act.put, List.setIfInBounds_toArray, List.set_cons_zero, List.set_cons_succ]
                                refine seqI_nil ?_
                                have HSX := HSd
                                have HKX := HKd
                                as_aux_lemma =>
                                  go_wp2_with fail
                                  go_roundw
                                  case rel => exact ⟨j + 1, by omega, by go_num, HSX.out, HKX.out⟩
                                  case measure => simp [intOf]; omega
                    · skip
                      clear HLAW
                      have HPC := Lib.hid (HPR.out w8 HK8.out t ht0 ht1)
                      obtain ⟨bp, bd, bs, ba, bt, bn⟩ := b
                      rw [hsy] at HPC
                      have HPC : Hid (Calls Tryz.prog 8 #[v4, .string ⟨#[97, 110, 110]⟩, .int .i64 t] w8 (fun e w' => e = .returned (.tuple #[.agg #[.string ⟨bp.toArray⟩, .string ⟨bd.toArray⟩, .int .i64 bs, .int .i64 ba, .int .i64 bt, .string ⟨bn.toArray⟩], .bool true, .int .i64 0]) ∧ Below w8.heap.size w8 w')) := HPC
                      have HIC : Hid (∀ W, Keeps w.heap.size w6 W → W.cell? ⟨A, 0, none⟩ = some (.int .i64 t) → A < W.heap.size → Calls Tryz.prog 9 #[v6, .func (.func 10) #[] #[.pointer (some ⟨A, 0, none⟩)]] W (fun e w' => e = .returned (.int .i64 (ix : Int)) ∧ Below W.heap.size W w')) := fun W hW hc hA => by
                        have h9 := HIX.out W hW t A hA hc
                        rw [hfi] at h9
                        exact h9
                      clear hsy hfi HPR HIX
                      as_aux_lemma =>
                        go_wp2_with fail
                        refine HPC.out.mono ?_
                        rintro e w9 ⟨rfl, hb9⟩
                        have hba : Below w9.heap.size w9 (w9.alloc (.cells #[.string ⟨bp.toArray⟩, .string ⟨bd.toArray⟩, .int .i64 bs, .int .i64 ba, .int .i64 bt, .string ⟨bn.toArray⟩] 35)) := ext_alloc (Below.refl _ _)
                        have hb9a := ext_trans hb9 hba
                        have HS9 := Lib.hid (HS8.out.below hb9a)
                        have HK9 := Lib.hid (HK8.out.trans (Keeps.of_below hb9a))
                        have HA9 := Lib.hid (HA8.out.below hb9a)
                        have HT9 : Hid (Blk (w9.alloc (.cells #[.string ⟨bp.toArray⟩, .string ⟨bd.toArray⟩, .int .i64 bs, .int .i64 ba, .int .i64 bt, .string ⟨bn.toArray⟩] 35)) w9.heap.size [.string ⟨bp.toArray⟩, .string ⟨bd.toArray⟩, .int .i64 bs, .int .i64 ba, .int .i64 bt, .string ⟨bn.toArray⟩] 35) := Blk.new _ _ _
                        clear hba hb9 hb9a HS8 HK8 HA8 HPC
                        as_aux_lemma =>
                          go_upto_region 11 with (fail)
                          generalize (w9.alloc (.cells #[.string ⟨bp.toArray⟩, .string ⟨bd.toArray⟩, .int .i64 bs, .int .i64 ba, .int .i64 bt, .string ⟨bn.toArray⟩] 35)) = wa at HS9 HK9 HA9 HT9 ⊢
                          generalize w9.heap.size = T at HT9 ⊢
                          have HIC2 := Lib.hid (HIC.out wa HK9.out (HA9.out.cell 0 rfl) HA9.out.lt)
                          clear HIC
                          as_aux_lemma =>
                            go_wp2_with fail
                            refine HIC2.out.mono ?_
                            rintro e w10 ⟨rfl, hb10⟩
                            have HS10 := Lib.hid (HS9.out.below hb10)
                            have HK10 := Lib.hid (HK9.out.trans (Keeps.of_below hb10))
                            have HT10 := Lib.hid (HT9.out.below hb10)
                            clear hb10 HS9 HK9 HA9 HT9 HIC2
                            have hO : w10.ownsRow w5.heap.size 35 6 v6 TL.length ((TL.map Vbcn.cells).flatten) := own_keeps HVR.out HK10.out hs5
                            obtain ⟨xa, xc, rfl⟩ := own_shape hO
                            obtain ⟨g, rfl, hg0, hg1⟩ := own_pos hO (by omega)
                            have d2 := own_field Vbcn.cells (fun _ => rfl) hO ix 2 default hil (by omega) rfl
                            have d1 := own_field Vbcn.cells (fun _ => rfl) hO ix 1 default hil (by omega) rfl
                            have d5 := own_field Vbcn.cells (fun _ => rfl) hO ix 5 default hil (by omega) rfl
                            rw [hxs] at d2
                            rw [hxd] at d1
                            rw [hxn] at d5
                            obtain ⟨nx, hnx⟩ : ∃ nx, nx = TL.length := ⟨_, rfl⟩
                            rw [← hnx] at hil ⊢
                            have HNX := Lib.hid hnx
                            have hili : (ix : Int) < (nx : Int) := by omega
                            have hil0 : ¬ ((ix : Int) < 0) := by omega
                            have HCE : Hid (∀ W9, Below w10.drew.heap.size w10.drew W9 → W9.cell? ⟨g, ix * 6 + 2, none⟩ = some (.int .i64 bs) ∧ W9.cell? ⟨g, ix * 6 + 1, none⟩ = some (.string ⟨bd.toArray⟩) ∧ W9.cell? ⟨g, ix * 6 + 5, none⟩ = some (.string ⟨bn.toArray⟩) ∧ W9.cell? ⟨T, 2, none⟩ = some (.int .i64 bs) ∧ W9.cell? ⟨T, 1, none⟩ = some (.string ⟨bd.toArray⟩) ∧ W9.cell? ⟨T, 5, none⟩ = some (.string ⟨bn.toArray⟩)) := fun W9 hW => by
                              have hbd : Below w10.heap.size w10 W9 := ext_trans (ext_drew (Below.refl _ _)) hW
                              have hT := HT10.out.below hbd
                              exact ⟨(hbd.cell (p := ⟨g, ix * 6 + 2, none⟩) hg1).trans d2, (hbd.cell (p := ⟨g, ix * 6 + 1, none⟩) hg1).trans d1, (hbd.cell (p := ⟨g, ix * 6 + 5, none⟩) hg1).trans d5, hT.cell 2 rfl, hT.cell 1 rfl, hT.cell 5 rfl⟩
                            clear hO d2 d1 d5 hxs hxd hxn hnx
                            as_aux_lemma =>
                              go_upto_region 12 with (fail)
                              have HSd := Lib.hid (HS10.out.below (ext_drew (Below.refl w10.heap.size w10)))
                              have HKd := Lib.hid (HK10.out.trans (Keeps.of_below (ext_drew (Below.refl w10.heap.size w10))))
                              clear HS10 HK10 HT10
                              as_aux_lemma =>
                                refine region_seqI (S := fun W9 => Below w10.drew.heap.size w10.drew W9) [(true, 0), (true, 1), (true, 2), (true, 3), (true, 4), (true, 5), (true, 6), (true, 7), (true, 8), (true, 9), (true, 10), (true, 11), (true, 12), (true, 13), (true, 14), (true, 15), (true, 16), (true, 17), (true, 18), (true, 19), (true, 20), (true, 21), (true, 22), (true, 23), (true, 24), (true, 25), (true, 26), (true, 27), (true, 28), (true, 29), (true, 30), (true, 31), (true, 32), (true, 33), (true, 34), (true, 35), (true, 36), (true, 37), (true, 38), (true, 39), (true, 40)] (by kernel_rfl) (by kernel_rfl) rfl (by kernel_rfl) (Below.refl _ _) ?_
                                generalize w10.drew = wd at HKd HSd HCE ⊢
                                simp only [seqOps, List.getD_cons_zero, List.getD_cons_succ]
                                refine seqI_take (v := .int .i64 0) rfl (fun W9 hW => by clear hW; go_simp) (fun _ _ _ h => h) ?_
                                simp only [Act.put, List.setIfInBounds_toArray, List.set_cons_zero, List.set_cons_succ]
                                refine seqI_take (v := .bool false) rfl (fun W9 hW => by clear hW; go_simp) (fun _ _ _ h => h) ?_
                                simp only [Act.put, List.setIfInBounds_toArray, List.set_cons_zero, List.set_cons_succ]
                                refine seqI_take (v := .bool false) rfl (fun W9 hW => by clear hW; go_simp) (fun _ _ _ h => h) ?_
                                simp only [Act.put, List.setIfInBounds_toArray, List.set_cons_zero, List.set_cons_succ]
                                refine seqI_take (v := .bool true) rfl (fun W9 hW => by clear hW; go_simp) (fun _ _ _ h => h) ?_
                                simp only [Act.put, List.setIfInBounds_toArray, List.set_cons_zero, List.set_cons_succ]
                                refine seqI_take (v := .int .i64 ix) rfl (fun W9 hW => by clear hW; go_simp) (fun _ _ _ h => h) ?_
                                simp only [Act.put, List.setIfInBounds_toArray, List.set_cons_zero, List.set_cons_succ]
                                refine seqI_take (v := .bool true) rfl (fun W9 hW => by clear hW; go_simp) (fun _ _ _ h => h) ?_
                                simp only [Act.put, List.setIfInBounds_toArray, List.set_cons_zero, List.set_cons_succ]
                                refine seqI_take (v := .bool false) rfl (fun W9 hW => by clear hW; go_simp) (fun _ _ _ h => h) ?_
                                simp only [Act.put, List.setIfInBounds_toArray, List.set_cons_zero, List.set_cons_succ]
                                refine seqI_take (v := .bool false) rfl (fun W9 hW => by clear hW; go_simp) (fun _ _ _ h => h) ?_
                                simp only [Act.put, List.setIfInBounds_toArray, List.set_cons_zero, List.set_cons_succ]
                                refine seqI_take (v := .bool false) rfl (fun W9 hW => by clear hW; go_simp) (fun _ _ _ h => h) ?_
                                simp only [Act.put, List.setIfInBounds_toArray, List.set_cons_zero, List.set_cons_succ]
                                refine seqI_take (v := .bool true) rfl (fun W9 hW => by clear hW; go_simp) (fun _ _ _ h => h) ?_
                                simp only [Act.put, List.setIfInBounds_toArray, List.set_cons_zero, List.set_cons_succ]
                                refine seqI_take (v := .bool true) rfl (fun W9 hW => by clear hW; go_simp) (fun _ _ _ h => h) ?_
                                simp only [Act.put, List.setIfInBounds_toArray, List.set_cons_zero, List.set_cons_succ]
                                refine seqI_take (v := .slice (some ⟨g, 0, none⟩) nx xc) rfl (fun W9 hW => by clear hW; go_simp) (fun _ _ _ h => h) ?_
                                simp only [Act.put, List.setIfInBounds_toArray, List.set_cons_zero, List.set_cons_succ]
                                refine seqI_take (v := .int .i64 ix) rfl (fun W9 hW => by clear hW; go_simp) (fun _ _ _ h => h) ?_
                                simp only [Act.put, List.setIfInBounds_toArray, List.set_cons_zero, List.set_cons_succ]
                                refine seqI_take (v := .pointer (some ⟨g, ix * 6, none⟩)) rfl (fun W9 hW => by clear hW; go_simp) (fun _ _ _ h => h) ?_
                                simp only [Act.put, List.setIfInBounds_toArray, List.set_cons_zero, List.set_cons_succ]
                                refine seqI_take (v := .pointer (some ⟨g, ix * 6 + 2, none⟩)) rfl (fun W9 hW => by clear hW; go_simp) (fun _ _ _ h => h) ?_
                                simp only [Act.put, List.setIfInBounds_toArray, List.set_cons_zero, List.set_cons_succ]
                                refine seqI_take (v := .int .i64 bs) rfl (fun W9 hW => by obtain ⟨q0, q1, q2, q3, q4, q5⟩ := HCE.out W9 hW; clear hW; go_simp) (fun _ _ _ h => h) ?_
                                simp only [Act.put, List.setIfInBounds_toArray, List.set_cons_zero, List.set_cons_succ]
                                refine seqI_take (v := .pointer (some ⟨T, 2, none⟩)) rfl (fun W9 hW => by clear hW; go_simp) (fun _ _ _ h => h) ?_
                                simp only [Act.put, List.setIfInBounds_toArray, List.set_cons_zero, List.set_cons_succ]
                                refine seqI_take (v := .int .i64 bs) rfl (fun W9 hW => by obtain ⟨q0, q1, q2, q3, q4, q5⟩ := HCE.out W9 hW; clear hW; go_simp) (fun _ _ _ h => h) ?_
                                simp only [Act.put, List.setIfInBounds_toArray, List.set_cons_zero, List.set_cons_succ]
                                refine seqI_take (v := .bool false) rfl (fun W9 hW => by clear hW; go_simp) (fun _ _ _ h => h) ?_
                                simp only [Act.put, List.setIfInBounds_toArray, List.set_cons_zero, List.set_cons_succ]
                                refine seqI_take (v := .bool false) rfl (fun W9 hW => by clear hW; go_simp) (fun _ _ _ h => h) ?_
                                simp only [Act.put, List.setIfInBounds_toArray, List.set_cons_zero, List.set_cons_succ]
                                refine seqI_take (v := .slice (some ⟨g, 0, none⟩) nx xc) rfl (fun W9 hW => by clear hW; go_simp) (fun _ _ _ h => h) ?_
                                simp only [Act.put, List.setIfInBounds_toArray, List.set_cons_zero, List.set_cons_succ]
                                refine seqI_take (v := .int .i64 ix) rfl (fun W9 hW => by clear hW; go_simp) (fun _ _ _ h => h) ?_
                                simp only [Act.put, List.setIfInBounds_toArray, List.set_cons_zero, List.set_cons_succ]
                                refine seqI_take (v := .pointer (some ⟨g, ix * 6, none⟩)) rfl (fun W9 hW => by clear hW; go_simp) (fun _ _ _ h => h) ?_
                                simp only [Act.put, List.setIfInBounds_toArray, List.set_cons_zero, List.set_cons_succ]
                                refine seqI_take (v := .pointer (some ⟨g, ix * 6 + 1, none⟩)) rfl (fun W9 hW => by clear hW; go_simp) (fun _ _ _ h => h) ?_
                                simp only [Act.put, List.setIfInBounds_toArray, List.set_cons_zero, List.set_cons_succ]
                                refine seqI_take (v := .string ⟨bd.toArray⟩) rfl (fun W9 hW => by obtain ⟨q0, q1, q2, q3, q4, q5⟩ := HCE.out W9 hW; clear hW; go_simp) (fun _ _ _ h => h) ?_
                                simp only [Act.put, List.setIfInBounds_toArray, List.set_cons_zero, List.set_cons_succ]
                                refine seqI_take (v := .pointer (some ⟨T, 1, none⟩)) rfl (fun W9 hW => by clear hW; go_simp) (fun _ _ _ h => h) ?_
                                simp only [Act.put, List.setIfInBounds_toArray, List.set_cons_zero, List.set_cons_succ]
                                refine seqI_take (v := .string ⟨bd.toArray⟩) rfl (fun W9 hW => by obtain ⟨q0, q1, q2, q3, q4, q5⟩ := HCE.out W9 hW; clear hW; go_simp) (fun _ _ _ h => h) ?_
                                simp only [Act.put, List.setIfInBounds_toArray, List.set_cons_zero, List.set_cons_succ]
                                refine seqI_take (v := .bool false) rfl (fun W9 hW => by clear hW; go_simp) (fun _ _ _ h => h) ?_
                                simp only [Act.put, List.setIfInBounds_toArray, List.set_cons_zero, List.set_cons_succ]
                                refine seqI_take (v := .bool false) rfl (fun W9 hW => by clear hW; go_simp) (fun _ _ _ h => h) ?_
                                simp only [Act.put, List.setIfInBounds_toArray, List.set_cons_zero, List.set_cons_succ]
                                refine seqI_take (v := .bool false) rfl (fun W9 hW => by clear hW; go_simp) (fun _ _ _ h => h) ?_
                                simp only [Act.put, List.setIfInBounds_toArray, List.set_cons_zero, List.set_cons_succ]
                                refine seqI_take (v := .slice (some ⟨g, 0, none⟩) nx xc) rfl (fun W9 hW => by clear hW; go_simp) (fun _ _ _ h => h) ?_
                                simp only [Act.put, List.setIfInBounds_toArray, List.set_cons_zero, List.set_cons_succ]
                                refine seqI_take (v := .int .i64 ix) rfl (fun W9 hW => by clear hW; go_simp) (fun _ _ _ h => h) ?_
                                simp only [Act.put, List.setIfInBounds_toArray, List.set_cons_zero, List.set_cons_succ]
                                refine seqI_take (v := .pointer (some ⟨g, ix * 6, none⟩)) rfl (fun W9 hW => by clear hW; go_simp) (fun _ _ _ h => h) ?_
                                simp only [Act.put, List.setIfInBounds_toArray, List.set_cons_zero, List.set_cons_succ]
                                refine seqI_take (v := .pointer (some ⟨g, ix * 6 + 5, none⟩)) rfl (fun W9 hW => by clear hW; go_simp) (fun _ _ _ h => h) ?_
                                simp only [Act.put, List.setIfInBounds_toArray, List.set_cons_zero, List.set_cons_succ]
                                refine seqI_take (v := .string ⟨bn.toArray⟩) rfl (fun W9 hW => by obtain ⟨q0, q1, q2, q3, q4, q5⟩ := HCE.out W9 hW; clear hW; go_simp) (fun _ _ _ h => h) ?_
                                simp only [Act.put, List.setIfInBounds_toArray, List.set_cons_zero, List.set_cons_succ]
                                refine seqI_take (v := .pointer (some ⟨T, 5, none⟩)) rfl (fun W9 hW => by clear hW; go_simp) (fun _ _ _ h => h) ?_
                                simp only [Act.put, List.setIfInBounds_toArray, List.set_cons_zero, List.set_cons_succ]
                                refine seqI_take (v := .string ⟨bn.toArray⟩) rfl (fun W9 hW => by obtain ⟨q0, q1, q2, q3, q4, q5⟩ := HCE.out W9 hW; clear hW; go_simp) (fun _ _ _ h => h) ?_
                                simp only [Act.put, List.setIfInBounds_toArray, List.set_cons_zero, List.set_cons_succ]
                                refine seqI_take (v := .bool false) rfl (fun W9 hW => by clear hW; go_simp) (fun _ _ _ h => h) ?_
                                simp only [Act.put, List.setIfInBounds_toArray, List.set_cons_zero, List.set_cons_succ]
                                refine seqI_take (v := .bool false) rfl (fun W9 hW => by clear hW; go_simp) (fun _ _ _ h => h) ?_
                                simp only [Act.put, List.setIfInBounds_toArray, List.set_cons_zero, List.set_cons_succ]
                                refine seqI_take (v := .bool false) rfl (fun W9 hW => by clear hW; go_simp) (fun _ _ _ h => h) ?_
                                simp only [Act.put, List.setIfInBounds_toArray, List.set_cons_zero, List.set_cons_succ]
                                refine seqI_take (v := .bool false) rfl (fun W9 hW => by clear hW; go_simp) (fun _ _ _ h => h) ?_
                                simp only [Act.put, List.setIfInBounds_toArray, List.set_cons_zero, List.set_cons_succ]
                                refine seqI_nil ?_
                                have HSX := HSd
                                have HKX := HKd
                                as_aux_lemma =>
                                  go_wp2_with fail
                                  rw [HNX.out]
                                  go_roundw
                                  case rel => exact ⟨j + 1, by omega, by go_num, HSX.out, HKX.out⟩
                                  case measure => simp [intOf]; omega
end Go.Proofs.YtamoclofloijpaaGreatDoor
