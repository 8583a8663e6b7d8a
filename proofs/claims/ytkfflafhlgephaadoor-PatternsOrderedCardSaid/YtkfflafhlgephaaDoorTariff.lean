/- What is proved here: what account.CheckTariff answers at a tariff that is right. Condition: the tariff lies in memory as stated. -/
import Derived.Test.YtkfflafhlgephaaDoorNumber
import Derived.Test.YtkfflafhlgephaaDoorStrs
import Derived.LoopN
namespace Go.Proofs.YtkfflafhlgephaaDoor
open Go.RowKit
set_option linter.unusedVariables false

structure Cls where
  pre : List UInt8
  name : List UInt8
  setup : Int
  first : Int
  step : Int
  rate : Int

def Cls.cells (c : Cls) : List Value := [.string ⟨c.pre.toArray⟩, .string ⟨c.name.toArray⟩, .int .i64 c.setup, .int .i64 c.first, .int .i64 c.step, .int .i64 c.rate]
def noCls : Cls := ⟨[], [], 0, 0, 0, 0⟩

/-- A slice of classes that lies in memory. -/
def ClsRow (w : World) (a : Option Addr) (n : Nat) (cs : List Cls) : Prop :=
  n = cs.length ∧ n ≤ 200 ∧ (n = 0 ∨ ∃ b off, a = some ⟨b, off, none⟩ ∧ b < w.heap.size ∧ ∀ i, i < n → ∀ j, j < 6 → w.cell? ⟨b, off + i * 6 + j, none⟩ = (cs.getD i noCls).cells[j]?)

theorem ClsRow.below {w w' : World} {a : Option Addr} {n : Nat} {cs : List Cls} (h : ClsRow w a n cs) (hb : Below w.heap.size w w') : ClsRow w' a n cs := by
  obtain ⟨h1, h2, h3⟩ := h
  refine ⟨h1, h2, h3.imp id ?_⟩
  rintro ⟨b, off, ha, hl, hc⟩
  exact ⟨b, off, ha, Nat.lt_of_lt_of_le hl hb.size, fun i hi j hj => (hb.cell (p := ⟨b, off + i * 6 + j, none⟩) hl).trans (hc i hi j hj)⟩

/-- A slice of strings that lies in memory. -/
def StrRow (w : World) (a : Option Addr) (n : Nat) (ss : List (List UInt8)) : Prop :=
  n = ss.length ∧ n ≤ 200 ∧ (n = 0 ∨ ∃ b off, a = some ⟨b, off, none⟩ ∧ b < w.heap.size ∧ ∀ i, i < n → w.cell? ⟨b, off + i, none⟩ = some (.string ⟨(ss.getD i []).toArray⟩))

theorem StrRow.below {w w' : World} {a : Option Addr} {n : Nat} {ss : List (List UInt8)} (h : StrRow w a n ss) (hb : Below w.heap.size w w') : StrRow w' a n ss := by
  obtain ⟨h1, h2, h3⟩ := h
  refine ⟨h1, h2, h3.imp id ?_⟩
  rintro ⟨b, off, ha, hl, hc⟩
  exact ⟨b, off, ha, Nat.lt_of_lt_of_le hl hb.size, fun i hi => (hb.cell (p := ⟨b, off + i, none⟩) hl).trans (hc i hi)⟩

theorem within_a (n lo hi : Int) (w : World) (h1 : lo ≤ n) (h2 : n ≤ hi) :
    Calls Tryd.prog 73 #[.int .i64 n, .int .i64 lo, .int .i64 hi] w fun e w' => e = .returned (.bool true) ∧ w = w' := by
  go_enter Tryd.func73, Tryd.ntmps73
  go_wp2
  go_ret
  exact ⟨rfl, rfl⟩

/-- What the numbers of a class may begin with. -/
def isPreB (l : List UInt8) : Bool := l.isEmpty || (Lib.hasPrefix l [43] && (decide ((Lib.trimPrefix l [43]).length ≤ 15) && allIn (Lib.trimPrefix l [43]) digitSet))

theorem isPrefix_any (l : List UInt8) (w : World) (hs : l.length ≤ 9223372036854775807) :
    Calls Tryd.prog 99 #[.string ⟨l.toArray⟩] w fun e w' => e = .returned (.bool (isPreB l)) ∧ Below w.heap.size w w' := by
  have hcon := Tryd.strings_CutPrefix ⟨l.toArray⟩ ⟨#[43]⟩ w
  have hle : (Lib.trimPrefix l [43]).length ≤ l.length := by unfold Lib.trimPrefix; split <;> simp
  have hd : Hid (isPreB l = (l.isEmpty || (Lib.hasPrefix l [43] && (decide ((Lib.trimPrefix l [43]).length ≤ 15) && (Lib.trimS (Lib.trimPrefix l [43]) digitSet).isEmpty)))) := by rfl
  change Calls _ _ _ w fun e w' => e = .returned (.tuple #[.string ⟨(Lib.trimPrefix l [43]).toArray⟩, .bool (Lib.hasPrefix l [43])]) ∧ w' = w at hcon
  generalize Lib.trimPrefix l [43] = d at hcon hd hle
  generalize Lib.hasPrefix l [43] = b at hcon hd
  have hcon2 := fun w => trim_digits ⟨d.toArray⟩ w (by show d.length ≤ _; omega)
  change ∀ w, Calls _ _ _ w fun e w' => e = .returned (.string ⟨(Lib.trimS d digitSet).toArray⟩) ∧ Below w.heap.size w w' at hcon2
  generalize Lib.trimS d digitSet = r at hcon2 hd
  cases hl : l with
  | nil =>
    subst hl
    cases b <;>
    · go_enter Tryd.func99, Tryd.ntmps99
      go_wp2_with (first | (go_at_call 57; refine hcon.mono ?_; rintro e w' ⟨rfl, rfl⟩) | (go_at_call 83; refine (hcon2 _).mono ?_; rintro e w' ⟨rfl, hB⟩))
      go_ret
      exact ⟨by rw [hd.out]; rfl, Below.refl _ _⟩
  | cons c l' =>
    rw [hl] at hcon hd
    have hne : (c :: l').isEmpty = false := rfl
    cases b with
    | false =>
      go_enter Tryd.func99, Tryd.ntmps99
      go_wp2_with (first | (go_at_call 57; refine hcon.mono ?_; rintro e w' ⟨rfl, rfl⟩) | (go_at_call 83; refine (hcon2 _).mono ?_; rintro e w' ⟨rfl, hB⟩))
      go_ret
      exact ⟨by rw [hd.out]; rfl, Below.refl _ _⟩
    | true =>
      by_cases h15 : d.length ≤ 15
      · go_enter Tryd.func99, Tryd.ntmps99
        go_wp2_with (first | (go_at_call 57; refine hcon.mono ?_; rintro e w' ⟨rfl, rfl⟩) | (go_at_call 83; refine (hcon2 _).mono ?_; rintro e w' ⟨rfl, hB⟩))
        go_ret
        exact ⟨by rw [hd.out, decide_eq_true h15]; rfl, hB⟩
      · go_enter Tryd.func99, Tryd.ntmps99
        go_wp2_with (first | (go_at_call 57; refine hcon.mono ?_; rintro e w' ⟨rfl, rfl⟩) | (go_at_call 83; refine (hcon2 _).mono ?_; rintro e w' ⟨rfl, hB⟩))
        go_ret
        exact ⟨by rw [hd.out, decide_eq_false (by omega)]; rfl, Below.refl _ _⟩

structure GoodCls (c : Cls) : Prop where
  pre : isPreB c.pre = true
  preLen : c.pre.length ≤ 1000
  name : isKeyB c.name = true
  nameLen : c.name.length ≤ 1000
  setup0 : 0 ≤ c.setup
  setup1 : c.setup ≤ 1000000
  rate0 : 0 ≤ c.rate
  rate1 : c.rate ≤ 1000000
  first0 : 0 ≤ c.first
  first1 : c.first ≤ 86400000
  step0 : 1 ≤ c.step
  step1 : c.step ≤ 86400000

theorem cls_cells {w : World} {b off i : Nat} {c : Cls} (h : ∀ j, j < 6 → w.cell? ⟨b, off + i * 6 + j, none⟩ = c.cells[j]?) :
    w.cell? ⟨b, off + i * 6, none⟩ = some (.string ⟨c.pre.toArray⟩) ∧ w.cell? ⟨b, off + i * 6 + 1, none⟩ = some (.string ⟨c.name.toArray⟩) ∧ w.cell? ⟨b, off + i * 6 + 2, none⟩ = some (.int .i64 c.setup) ∧ w.cell? ⟨b, off + i * 6 + 3, none⟩ = some (.int .i64 c.first) ∧ w.cell? ⟨b, off + i * 6 + 4, none⟩ = some (.int .i64 c.step) ∧ w.cell? ⟨b, off + i * 6 + 5, none⟩ = some (.int .i64 c.rate) :=
  ⟨h 0 (by omega), h 1 (by omega), h 2 (by omega), h 3 (by omega), h 4 (by omega), h 5 (by omega)⟩

set_option maxHeartbeats 1000000 in
theorem checkTariff_ok (w : World) (a : Option Addr) (n cap : Nat) (cs : List Cls) (free : Int) (a2 : Option Addr) (n2 cap2 : Nat) (ss : List (List UInt8))
    (hr : ClsRow w a n cs) (hg : ∀ i, i < n → GoodCls (cs.getD i noCls)) (ho : ∀ i, 0 < i → i < n → leS (cs.getD i noCls).pre (cs.getD (i - 1) noCls).pre = false) (hs : StrRow w a2 n2 ss) (hi : ∀ i, i < n2 → isKeyB (ss.getD i []) = true ∧ (ss.getD i []).length ≤ 1000) (ho2 : ∀ i, 0 < i → i < n2 → leS (ss.getD i []) (ss.getD (i - 1) []) = false) (hf0 : 0 ≤ free) (hf1 : free ≤ 2592000000) :
    Calls Tryd.prog 71 #[.agg #[.slice a n cap, .int .i64 free, .slice a2 n2 cap2]] w fun e w' => e = .returned (.int .i64 0) ∧ Below w.heap.size w w' := by
  obtain ⟨hn, hn2, hr⟩ := hr
  have Hg := Lib.hid hg
  have Hr := Lib.hid hr
  have Hn := Lib.hid hn
  have Ho := Lib.hid ho
  have Hi := Lib.hid hi
  have Ho2 := Lib.hid ho2
  clear hg hr hn ho hi ho2
  obtain ⟨hn3, hn4, hs⟩ := hs
  have Hn3 := Lib.hid hn3
  have Hs := Lib.hid hs
  clear hs hn3
  go_enter Tryd.func71, Tryd.ntmps71
  go_wp2_with fail
  go_loopw [14] (fun i wr => ∃ k : Nat, k ≤ n ∧ i = .int .i64 k ∧ Hid (Below (w.alloc (.cells #[.slice a n cap, .int .i64 free, .slice a2 n2 cap2] 90)).heap.size (w.alloc (.cells #[.slice a n cap, .int .i64 free, .slice a2 n2 cap2] 90)) wr)) (fun i _ => n - (intOf i).toNat)
  case atStart => exact ⟨0, Nat.zero_le _, rfl, Below.refl _ _⟩
  case round =>
    obtain ⟨k, hk, rfl, HB⟩ := hrel
    by_cases hlt : k < n
    · have g := Hg.out k hlt
      rcases Hr.out with h0 | ⟨b, off, rfl, hb, hc⟩
      · omega
      have hbw : Below w.heap.size w wr := ext_trans (ext_alloc (Below.refl _ _)) HB.out
      obtain ⟨c0, c1, c2, c3, c4, c5⟩ := cls_cells (w := wr) (fun j hj => (hbw.cell (p := ⟨b, off + k * 6 + j, none⟩) hb).trans (hc k hlt j hj))
      have x0 : wr.cell? ⟨w.heap.size, 0, none⟩ = some (.slice (some ⟨b, off, none⟩) n cap) := (HB.out.cell (p := ⟨w.heap.size, 0, none⟩) (by simp)).trans (by simp)
      have zr : w.heap.size < wr.heap.size := by have := HB.out.size; simp at this; omega
      have zb : b < wr.heap.size := by omega
      have HX : Hid (∀ j, 0 < k → j < 6 → wr.cell? ⟨b, off + (k - 1) * 6 + j, none⟩ = (cs.getD (k - 1) noCls).cells[j]?) := fun j h0 hj => (hbw.cell (p := ⟨b, off + (k - 1) * 6 + j, none⟩) hb).trans (hc (k - 1) (by omega) j hj)
      have HO : Hid (0 < k → leS (cs.getD k noCls).pre (cs.getD (k - 1) noCls).pre = false) := fun h => Ho.out k h hlt
      clear hc Hr
      generalize cs.getD k noCls = cl at g c0 c1 c2 c3 c4 c5 HO
      generalize cs.getD (k - 1) noCls = pv at HX HO
      go_wp2_with fail
      refine (isPrefix_any _ _ (by have := g.preLen; omega)).mono ?_
      rw [g.pre]
      rintro e w1 ⟨rfl, hB1⟩
      obtain ⟨q1, -⟩ := bcell hB1
      go_wp2_with fail
      refine (isKey_any _ _ (by have := g.nameLen; omega)).mono ?_
      rw [g.name]
      rintro e w2 ⟨rfl, hB2⟩
      obtain ⟨q2, -⟩ := bcell hB2
      have z1 : wr.heap.size < w1.heap.size := by have := hB1.size; simp at this; omega
      have zb1 : b < w1.heap.size := by omega
      have zw1 : w.heap.size < w1.heap.size := by omega
      obtain ⟨g1, g2, g3, g4, g5, g6, g7, g8, g9, g10, g11, g12⟩ := g
      clear g1 g3
      go_wp2_with (go_at_call 73; refine (within_a _ _ _ _ (by omega) (by omega)).mono ?_; rintro e w' ⟨rfl, rfl⟩)
      by_cases hk0 : k = 0
      · subst hk0
        go_quiet (fail)
        go_wp2_with fail
        go_roundw
        case rel => exact ⟨1, by omega, rfl, (by (try show Below _ _ _); repeat (with_reducible first | exact Below.refl _ _ | assumption | exact Hid.out (by assumption) | refine ext_alloc ?_ | refine ext_drewN ?_ | refine ext_drew ?_ | refine ext_setCell ?_ (Nat.le_refl _) | refine ext_setCell ?_ (Nat.le_succ _) | refine ext_trans ?_ (by assumption) | (refine ext_setCell ?_ (by simp)) | (refine ext_setCell ?_ (by simp at *; omega))))⟩
        case measure => simp [intOf]; omega
      · have p0 : wr.cell? ⟨b, off + (k - 1) * 6, none⟩ = some (.string ⟨pv.pre.toArray⟩) := HX.out 0 (by omega) (by omega)
        have kp : (0 : Int) < (k : Int) := by omega
        have kp2 : 0 < k := by omega
        have kq : ((k : Int) - 1).toNat = k - 1 := by omega
        have kr : 0 ≤ (k : Int) - 1 := by omega
        have ks : (k : Int) - 1 < n := by omega
        obtain ⟨o1, o2⟩ := leS_false (HO.out kp2)
        go_quiet (fail)
        go_wp2_with fail
        go_roundw
        case rel => exact ⟨k + 1, by omega, by go_num, (by (try show Below _ _ _); repeat (with_reducible first | exact Below.refl _ _ | assumption | exact Hid.out (by assumption) | refine ext_alloc ?_ | refine ext_drewN ?_ | refine ext_drew ?_ | refine ext_setCell ?_ (Nat.le_refl _) | refine ext_setCell ?_ (Nat.le_succ _) | refine ext_trans ?_ (by assumption) | (refine ext_setCell ?_ (by simp)) | (refine ext_setCell ?_ (by simp at *; omega))))⟩
        case measure => simp [intOf]; omega
    · obtain ⟨wo, rfl⟩ : ∃ wo : World, wo = wr := ⟨_, rfl⟩
      have x1 : wo.cell? ⟨w.heap.size, 1, none⟩ = some (.int .i64 free) := (HB.out.cell (p := ⟨w.heap.size, 1, none⟩) (by simp)).trans (by simp)
      have x2 : wo.cell? ⟨w.heap.size, 2, none⟩ = some (.slice a2 n2 cap2) := (HB.out.cell (p := ⟨w.heap.size, 2, none⟩) (by simp)).trans (by simp)
      go_wp2_with (go_at_call 73; refine (within_a _ _ _ _ (by omega) (by omega)).mono ?_; rintro e w' ⟨rfl, rfl⟩)
      go_loopw [79] (fun i wr => ∃ k : Nat, k ≤ n2 ∧ i = .int .i64 k ∧ Hid (Below (w.alloc (.cells #[.slice a n cap, .int .i64 free, .slice a2 n2 cap2] 90)).heap.size (w.alloc (.cells #[.slice a n cap, .int .i64 free, .slice a2 n2 cap2] 90)) wr)) (fun i _ => n2 - (intOf i).toNat)
      case atStart => exact ⟨0, Nat.zero_le _, rfl, HB⟩
      case round =>
        obtain ⟨k, hk, rfl, HB⟩ := hrel
        have hbw : Below w.heap.size w wr := ext_trans (ext_alloc (Below.refl _ _)) HB.out
        have x2 : wr.cell? ⟨w.heap.size, 2, none⟩ = some (.slice a2 n2 cap2) := (HB.out.cell (p := ⟨w.heap.size, 2, none⟩) (by simp)).trans (by simp)
        have zr : w.heap.size < wr.heap.size := by have := HB.out.size; simp at this; omega
        by_cases hlt : k < n2
        · obtain ⟨g1, g2⟩ := Hi.out k hlt
          rcases Hs.out with h0 | ⟨b, off, rfl, hb, hc⟩
          · omega
          have zb : b < wr.heap.size := by omega
          have c0 := (hbw.cell (p := ⟨b, off + k, none⟩) hb).trans (hc k hlt)
          have HX : Hid (0 < k → wr.cell? ⟨b, off + (k - 1), none⟩ = some (.string ⟨(ss.getD (k - 1) []).toArray⟩)) := fun h0 => (hbw.cell (p := ⟨b, off + (k - 1), none⟩) hb).trans (hc (k - 1) (by omega))
          have HO : Hid (0 < k → leS (ss.getD k []) (ss.getD (k - 1) []) = false) := fun h => Ho2.out k h hlt
          clear hc Hs
          generalize ss.getD k [] = cl at g1 g2 c0 HO
          generalize ss.getD (k - 1) [] = pv at HX HO
          go_wp2_with fail
          refine (isKey_any _ _ (by omega)).mono ?_
          rw [g1]
          rintro e w2 ⟨rfl, hB2⟩
          obtain ⟨q2, -⟩ := bcell hB2
          clear g1
          by_cases hk0 : k = 0
          · subst hk0
            go_wp2_with fail
            go_roundw
            case rel => exact ⟨1, by omega, rfl, (by (try show Below _ _ _); repeat (with_reducible first | exact Below.refl _ _ | assumption | exact Hid.out (by assumption) | refine ext_alloc ?_ | refine ext_drewN ?_ | refine ext_drew ?_ | refine ext_setCell ?_ (Nat.le_refl _) | refine ext_setCell ?_ (Nat.le_succ _) | refine ext_trans ?_ (by assumption) | (refine ext_setCell ?_ (by simp)) | (refine ext_setCell ?_ (by simp at *; omega))))⟩
            case measure => simp [intOf]; omega
          · have p0 := HX.out (by omega)
            have kp : (0 : Int) < (k : Int) := by omega
            have kp2 : 0 < k := by omega
            have kq : ((k : Int) - 1).toNat = k - 1 := by omega
            have kr : 0 ≤ (k : Int) - 1 := by omega
            have ks : (k : Int) - 1 < n2 := by omega
            obtain ⟨o1, o2⟩ := leS_false (HO.out kp2)
            go_wp2_with fail
            go_roundw
            case rel => exact ⟨k + 1, by omega, by go_num, (by (try show Below _ _ _); repeat (with_reducible first | exact Below.refl _ _ | assumption | exact Hid.out (by assumption) | refine ext_alloc ?_ | refine ext_drewN ?_ | refine ext_drew ?_ | refine ext_setCell ?_ (Nat.le_refl _) | refine ext_setCell ?_ (Nat.le_succ _) | refine ext_trans ?_ (by assumption) | (refine ext_setCell ?_ (by simp)) | (refine ext_setCell ?_ (by simp at *; omega))))⟩
            case measure => simp [intOf]; omega
        · go_wp2_with fail
          go_ret
          exact ⟨rfl, hbw⟩
end Go.Proofs.YtkfflafhlgephaaDoor
