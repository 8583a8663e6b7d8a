/- What is proved here: lemmas and contracts for the statement, put together out of smaller texts (ClassOf, Price, MediaMath, Ready, LawChn, Laid). No condition beyond those stated. -/
import Derived.Test.YtkdadbpajhdelaaGreatDoorCePkJ
import Derived.Deep.RegionWith
import Derived.StillTailTactics
import Derived.IntWalk
import Derived.WalkArith
import Derived.Test.YtkdadbpajhdelaaGreatDoorCePkA
import Derived.Test.YtkdadbpajhdelaaGreatDoorCePkG
import Derived.Test.YtkdadbpajhdelaaGreatDoorCePkH
import Derived.Test.YtkdadbpajhdelaaGreatDoorCePkI
import Derived.Test.YtkdadbpajhdelaaGreatDoorCePkF
import Derived.Deep.DeepCutAuto
import Derived.Test.YtkdadbpajhdelaaGreatDoorRows
import Derived.Test.YtkdadbpajhdelaaGreatDoorTie
import Derived.Test.YtkdadbpajhdelaaGreatDoorCards
import Derived.Test.YtkdadbpajhdelaaGreatDoorCePkC
import Derived.ProofKit
import Derived.OpenShut
import Derived.ShutString
import Derived.ChangeOld
import Derived.LaidMore
import Derived.Lay
import Derived.Lib.LaidU8
import Derived.SevenTiedAt
namespace Go.Proofs.YtkdadbpajhdelaaGreatDoor
open Go.RowKit
set_option linter.unusedVariables false

/-- The classes are in order, each before the next. -/
def Sorted (cs : List Cls) : Prop := ∀ i, 0 < i → i < cs.length → leS (cs.getD i noCls).pre (cs.getD (i - 1) noCls).pre = false

theorem Sorted.lt {cs : List Cls} (h : Sorted cs) : ∀ (i d : Nat), i + (d + 1) < cs.length → Op.bytesLess (cs.getD i noCls).pre (cs.getD (i + (d + 1)) noCls).pre = true
  | i, 0, hi => by have := h (i + 1) (by omega) hi; exact less_of_leS this
  | i, d + 1, hi => by
    have h1 := Sorted.lt h i d (by omega)
    have h2 := less_of_leS (h (i + (d + 1) + 1) (by omega) (by omega))
    exact less_trans h1 h2

theorem Sorted.lt' {cs : List Cls} (h : Sorted cs) {i j : Nat} (hij : i < j) (hj : j < cs.length) : Op.bytesLess (cs.getD i noCls).pre (cs.getD j noCls).pre = true := by
  have := h.lt i (j - i - 1) (by omega)
  rwa [show i + (j - i - 1 + 1) = j by omega] at this

def cmpAt (cs : List Cls) (t : List UInt8) (i : Nat) : Int := Lib.compareBytes (cs.getD i noCls).pre t

theorem cmpAt_mono {cs : List Cls} (h : Sorted cs) {t : List UInt8} {i j : Nat} (hij : i ≤ j) (hj : j < cs.length) (hc : cmpAt cs t j < 0) : cmpAt cs t i < 0 := by
  rcases Nat.lt_or_eq_of_le hij with h' | rfl
  · unfold cmpAt at hc ⊢
    rw [cmp_neg] at hc ⊢
    exact less_trans (h.lt' h' hj) hc
  · exact hc

def findPre (cs : List Cls) (t : List UInt8) : Option Cls := cs.find? (fun c => c.pre == t)

theorem find_hit {cs : List Cls} (h : Sorted cs) {t : List UInt8} {i : Nat} (hi : i < cs.length) (hc : cmpAt cs t i = 0) : findPre cs t = some (cs.getD i noCls) := by
  unfold cmpAt at hc
  rw [cmp_zero] at hc
  unfold findPre
  rw [List.find?_eq_some_iff_getElem]
  have e : cs.getD i noCls = cs[i] := by simp [List.getD_eq_getElem?_getD, List.getElem?_eq_getElem hi]
  refine ⟨by simpa using hc, i, hi, e.symm, fun j hj => ?_⟩
  have e2 : cs.getD j noCls = cs[j] := by simp [List.getD_eq_getElem?_getD, List.getElem?_eq_getElem (Nat.lt_trans hj hi)]
  have := h.lt' hj hi
  rw [hc, e2] at this
  simp only [Bool.not_eq_true', beq_eq_false_iff_ne]
  intro e3
  rw [e3, less_irrefl] at this
  cases this

theorem find_miss {cs : List Cls} (h : Sorted cs) {t : List UInt8} {i : Nat} (hi : i ≤ cs.length) (h1 : ∀ m, m < i → cmpAt cs t m < 0) (h2 : ∀ m, i ≤ m → m < cs.length → ¬ cmpAt cs t m < 0) (h3 : i < cs.length → cmpAt cs t i ≠ 0) : findPre cs t = none := by
  unfold findPre
  rw [List.find?_eq_none]
  intro c hc hp
  obtain ⟨j, hj, rfl⟩ := List.getElem_of_mem hc
  have e : cs.getD j noCls = cs[j] := by simp [List.getD_eq_getElem?_getD, List.getElem?_eq_getElem hj]
  have hp' : cs[j].pre = t := by simpa using hp
  have hz : cmpAt cs t j = 0 := by unfold cmpAt; rw [cmp_zero, e]; exact hp'
  by_cases hji : j < i
  · have := h1 j hji; omega
  · by_cases hje : j = i
    · subst hje; exact h3 hj hz
    · have hlt : i < j := by omega
      have := h2 i (Nat.le_refl _) (by omega)
      apply this
      unfold cmpAt
      rw [cmp_neg]
      have hl := h.lt' hlt hj
      rw [e, hp'] at hl
      exact hl

theorem cls1_any (p n t : List UInt8) (a b c d : Int) (w : World) :
    Calls Tryz.prog 143 #[.agg #[.string ⟨p.toArray⟩, .string ⟨n.toArray⟩, .int .i64 a, .int .i64 b, .int .i64 c, .int .i64 d], .string ⟨t.toArray⟩] w fun e w' => e = .returned (.int .i64 (Lib.compareBytes p t)) ∧ Below w.heap.size w w' := by
  have hcon := fun w => Tryz.strings_Compare ⟨p.toArray⟩ ⟨t.toArray⟩ w
  change ∀ w, Calls _ _ _ w fun e w' => e = .returned (.int .i64 (Lib.compareBytes p t)) ∧ w' = w at hcon
  generalize Lib.compareBytes p t = r at hcon ⊢
  go_enter Tryz.func143, Tryz.ntmps143
  go_wp2_with (go_at_call 71; refine (hcon _).mono ?_; rintro e w' ⟨rfl, rfl⟩)
  go_ret
  exact ⟨rfl, (by (try show Below _ _ _); repeat (with_reducible first | exact Below.refl _ _ | assumption | exact Hid.out (by assumption) | refine ext_alloc ?_ | refine ext_drewN ?_ | refine ext_drew ?_ | refine ext_setCell ?_ (Nat.le_refl _) | refine ext_setCell ?_ (Nat.le_succ _) | refine ext_trans ?_ (by assumption) | (refine ext_setCell ?_ (by simp)) | (refine ext_setCell ?_ (by simp at *; omega))))⟩

/-- What the search comes to. -/
def Found (cs : List Cls) (t : List UInt8) (n : Nat) (w : World) (e : Ending) (w' : World) : Prop :=
  Below w.heap.size w w' ∧ ((∃ i, i < n ∧ e = .returned (.tuple #[.int .i64 (i : Nat), .bool true]) ∧ findPre cs t = some (cs.getD i noCls)) ∨ ∃ i : Int, e = .returned (.tuple #[.int .i64 i, .bool false]) ∧ findPre cs t = none)

set_option maxHeartbeats 1000000 in
theorem search_any (w : World) (a : Option Addr) (n cap : Nat) (cs : List Cls) (t : List UInt8) (hr : ClsRow w a n cs) (ho : Sorted cs) :
    Calls Tryz.prog 142 #[.slice a n cap, .string ⟨t.toArray⟩, .func (.func 143) #[] #[]] w (Found cs t n w) := by
  obtain ⟨hn, hn2, hr⟩ := hr
  have Hn := Lib.hid hn
  have Hr := Lib.hid hr
  have Ho := Lib.hid ho
  clear hn hr ho
  go_enter Tryz.func142, Tryz.ntmps142
  go_wp2_with fail
  go_loopw [9, 10] (fun s9 s10 wr => ∃ i j : Nat, i ≤ j ∧ j ≤ n ∧ s9 = .int .i64 i ∧ s10 = .int .i64 j ∧ Hid (Below w.heap.size w wr) ∧ Hid (∀ m, m < i → cmpAt cs t m < 0) ∧ Hid (∀ m, j ≤ m → m < n → 0 ≤ cmpAt cs t m)) (fun s9 s10 _ => (intOf s10).toNat - (intOf s9).toNat)
  case atStart => exact ⟨0, n, Nat.zero_le _, Nat.le_refl _, rfl, rfl, Below.refl _ _, fun m hm => absurd hm (by omega), fun m h1 h2 => absurd h1 (by omega)⟩
  case round =>
    obtain ⟨i, j, hij, hjn, rfl, rfl, HB, HL, HU⟩ := hrel
    by_cases hlt : i < j
    · rcases Hr.out with h0 | ⟨b, off, rfl, hb, hc⟩
      · omega
      obtain ⟨c0, c1, c2, c3, c4, c5⟩ := cls_cells (w := wr) (fun q hq => (HB.out.cell (p := ⟨b, off + ((i + j) / 2) * 6 + q, none⟩) hb).trans (hc ((i + j) / 2) (by omega) q hq))
      have hcmp : Hid (cmpAt cs t ((i + j) / 2) = Lib.compareBytes (cs.getD ((i + j) / 2) noCls).pre t) := rfl
      clear hc Hr
      generalize cs.getD ((i + j) / 2) noCls = cl at c0 c1 c2 c3 c4 c5 hcmp
      go_wp2_with fail
      refine (cls1_any _ _ _ _ _ _ _ _).mono ?_
      rintro e w1 ⟨rfl, hB1⟩
      generalize Lib.compareBytes cl.pre t = r at hcmp
      by_cases hr0 : r < 0
      · go_wp2_with fail
        go_roundw
        case rel => exact ⟨(i + j) / 2 + 1, j, by omega, hjn, by go_num, rfl, ext_trans HB.out hB1, fun m hm => cmpAt_mono Ho.out (j := (i + j) / 2) (by omega) (by rw [← Hn.out]; omega) (by rw [hcmp.out]; exact hr0), HU⟩
        case measure => simp [intOf]; omega
      · go_wp2_with fail
        go_roundw
        case rel => exact ⟨i, (i + j) / 2, by omega, by omega, rfl, by go_num, ext_trans HB.out hB1, HL, fun m h1 h2 => Int.not_lt.1 (fun hm => absurd (show r < 0 by rw [← hcmp.out]; exact cmpAt_mono Ho.out h1 (by rw [← Hn.out]; exact h2) hm) (by omega))⟩
        case measure => simp [intOf]; omega
    · obtain rfl : i = j := by omega
      by_cases hin : i < n
      · rcases Hr.out with h0 | ⟨b, off, rfl, hb, hc⟩
        · omega
        obtain ⟨c0, c1, c2, c3, c4, c5⟩ := cls_cells (w := wr) (fun q hq => (HB.out.cell (p := ⟨b, off + i * 6 + q, none⟩) hb).trans (hc i hin q hq))
        have hcmp : Hid (cmpAt cs t i = Lib.compareBytes (cs.getD i noCls).pre t) := rfl
        have hin2 : (i : Int) < (n : Int) := by omega
        clear hc Hr
        generalize hcl : cs.getD i noCls = cl at c0 c1 c2 c3 c4 c5 hcmp
        have Hcl := Lib.hid hcl
        clear hcl
        go_wp2_with fail
        refine (cls1_any _ _ _ _ _ _ _ _).mono ?_
        rintro e w1 ⟨rfl, hB1⟩
        generalize Lib.compareBytes cl.pre t = r at hcmp
        by_cases hr0 : r = 0
        · subst hr0
          go_wp2_with fail
          go_ret2
          exact ⟨ext_trans HB.out hB1, Or.inl ⟨i, hin, rfl, find_hit Ho.out (by rw [← Hn.out]; exact hin) hcmp.out⟩⟩
        · have hr1 : (r == 0) = false := by simpa using hr0
          go_wp2_with fail
          go_ret2
          exact ⟨ext_trans HB.out hB1, Or.inr ⟨_, rfl, find_miss Ho.out (by rw [← Hn.out]; omega) HL.out (by rw [← Hn.out]; exact fun m h1 h2 => Int.not_lt.2 (HU.out m h1 h2)) (fun _ => by rw [hcmp.out]; exact hr0)⟩⟩
      · have hin2 : ¬ (i : Int) < (n : Int) := by omega
        go_wp2_with fail
        go_ret2
        exact ⟨HB.out, Or.inr ⟨_, rfl, find_miss Ho.out (by rw [← Hn.out]; omega) HL.out (by rw [← Hn.out]; exact fun m h1 h2 => Int.not_lt.2 (HU.out m h1 h2)) (fun h => absurd h (by rw [← Hn.out]; omega))⟩⟩

def FoundP (cs : List Cls) (t : List UInt8) (n : Nat) (i : Int) (f : Bool) : Prop := (f = true → ∃ m : Nat, m < n ∧ i = m ∧ findPre cs t = some (cs.getD m noCls)) ∧ (f = false → findPre cs t = none)
def Found2 (cs : List Cls) (t : List UInt8) (n : Nat) (w : World) (e : Ending) (w' : World) : Prop :=
  ∃ (i : Int) (f : Bool), e = .returned (.tuple #[.int .i64 i, .bool f]) ∧ Below w.heap.size w w' ∧ FoundP cs t n i f

theorem search_str (w : World) (a : Option Addr) (n cap : Nat) (cs : List Cls) (t : List UInt8) (s : ByteArray) (hs : s.data.toList = t) (hr : ClsRow w a n cs) (ho : Sorted cs) :
    Calls Tryz.prog 142 #[.slice a n cap, .string s, .func (.func 143) #[] #[]] w (Found2 cs t n w) := by
  have h := search_any w a n cap cs t hr ho
  have e : (⟨t.toArray⟩ : ByteArray) = s := by rw [← hs]
  rw [e] at h
  refine h.mono ?_
  rintro e w' ⟨hb, ⟨i, hi, rfl, hf⟩ | ⟨i, rfl, hf⟩⟩
  · exact ⟨_, _, rfl, hb, (fun _ => ⟨i, hi, rfl, hf⟩), (fun h => by cases h)⟩
  · exact ⟨_, _, rfl, hb, (fun h => by cases h), fun _ => hf⟩

theorem extract_take (l : List UInt8) (k : Nat) : ((⟨l.toArray⟩ : ByteArray).extract 0 k).data.toList = l.take k := by
  simp [ByteArray.extract, ByteArray.copySlice]

def priceI (c : Cls) (talk : Int) : Int := if talk = 0 then 0 else c.setup + c.rate * ((max 0 (talk - c.first) + c.step - 1) / c.step)

set_option maxHeartbeats 1000000 in
theorem price_any (c : Cls) (talk : Int) (w : World) (g : GoodCls c) (h0 : 0 ≤ talk) (h1 : talk ≤ 86400000) :
    Calls Tryz.prog 93 #[.agg #[.string ⟨c.pre.toArray⟩, .string ⟨c.name.toArray⟩, .int .i64 c.setup, .int .i64 c.first, .int .i64 c.step, .int .i64 c.rate], .int .i64 talk] w fun e w' => e = .returned (.int .i64 (priceI c talk)) ∧ Below w.heap.size w w' := by
  obtain ⟨g1, g2, g3, g4, g5, g6, g7, g8, g9, g10, g11, g12⟩ := g
  clear g1 g3
  have hd : Hid (priceI c talk = if talk = 0 then 0 else c.setup + c.rate * ((max 0 (talk - c.first) + c.step - 1) / c.step)) := rfl
  by_cases ht : talk = 0
  · subst ht
    go_enter Tryz.func93, Tryz.ntmps93
    go_wp2_with fail
    go_ret
    exact ⟨by rw [hd.out]; rfl, (by (try show Below _ _ _); repeat (with_reducible first | exact Below.refl _ _ | assumption | exact Hid.out (by assumption) | refine ext_alloc ?_ | refine ext_drewN ?_ | refine ext_drew ?_ | refine ext_setCell ?_ (Nat.le_refl _) | refine ext_setCell ?_ (Nat.le_succ _) | refine ext_trans ?_ (by assumption) | (refine ext_setCell ?_ (by simp)) | (refine ext_setCell ?_ (by simp at *; omega))))⟩
  · have ht2 : (talk == 0) = false := by simpa using ht
    go_enter Tryz.func93, Tryz.ntmps93
    go_wp2_with fail
    generalize hv : max 0 (talk - c.first) = v at hd
    have v0 : 0 ≤ v := by omega
    have v1 : v ≤ 86400000 := by omega
    clear hv
    have q0 : 0 ≤ (v + c.step - 1) / c.step := Int.ediv_nonneg (by omega) (by omega)
    have q1 : (v + c.step - 1) / c.step ≤ 172800000 := Int.ediv_le_of_le_mul (by omega) (by have : (172800000 : Int) * 1 ≤ 172800000 * c.step := Int.mul_le_mul_of_nonneg_left g11 (by omega); omega)
    have m0 : 0 ≤ c.rate * ((v + c.step - 1) / c.step) := Int.mul_nonneg g7 q0
    have m1 : c.rate * ((v + c.step - 1) / c.step) ≤ 1000000 * 172800000 := Int.mul_le_mul g8 q1 q0 (by omega)
    have w1 : IntKind.i64.wrap (v + c.step) = v + c.step := IntWalk.i64_in _ (by omega)
    have w2 : IntKind.i64.wrap (v + c.step - 1) = v + c.step - 1 := IntWalk.i64_in _ (by omega)
    have w3 : IntKind.i64.wrap (c.rate * ((v + c.step - 1) / c.step)) = c.rate * ((v + c.step - 1) / c.step) := IntWalk.i64_in _ (by omega)
    have w4 : IntKind.i64.wrap (c.setup + c.rate * ((v + c.step - 1) / c.step)) = c.setup + c.rate * ((v + c.step - 1) / c.step) := IntWalk.i64_in _ (by omega)
    have w5 : (v + c.step - 1).tdiv c.step = (v + c.step - 1) / c.step := Int.tdiv_eq_ediv_of_nonneg (by omega)
    have w6 : IntKind.i64.wrap ((v + c.step - 1) / c.step) = (v + c.step - 1) / c.step := IntWalk.i64_in _ (by omega)
    have w7 : ¬ c.step = 0 := by omega
    clear q0 q1 m0 m1
    go_quiet (fail)
    go_wp2_with fail
    go_ret
    exact ⟨by rw [hd.out, if_neg ht]; rfl, (by (try show Below _ _ _); repeat (with_reducible first | exact Below.refl _ _ | assumption | exact Hid.out (by assumption) | refine ext_alloc ?_ | refine ext_drewN ?_ | refine ext_drew ?_ | refine ext_setCell ?_ (Nat.le_refl _) | refine ext_setCell ?_ (Nat.le_succ _) | refine ext_trans ?_ (by assumption) | (refine ext_setCell ?_ (by simp)) | (refine ext_setCell ?_ (by simp at *; omega))))⟩

/-- The class of a number: that of the longest of its beginnings of at most k bytes. -/
def clsTo (cs : List Cls) (l : List UInt8) : Nat → Option Cls
  | 0 => findPre cs (l.take 0)
  | k + 1 => (findPre cs (l.take (k + 1))).or (clsTo cs l k)

def clsOf (cs : List Cls) (l : List UInt8) : Option Cls := clsTo cs l l.length

def ClsPost (cs : List Cls) (l : List UInt8) (w : World) (e : Ending) (w' : World) : Prop :=
  Below w.heap.size w w' ∧ ((∃ c ∈ cs, e = .returned (.tuple #[.agg #[.string ⟨c.pre.toArray⟩, .string ⟨c.name.toArray⟩, .int .i64 c.setup, .int .i64 c.first, .int .i64 c.step, .int .i64 c.rate], .bool true]) ∧ clsOf cs l = some c) ∨
    (e = .returned (.tuple #[.agg #[.string ⟨#[]⟩, .string ⟨#[]⟩, .int .i64 0, .int .i64 0, .int .i64 0, .int .i64 0], .bool false]) ∧ clsOf cs l = none))

set_option maxRecDepth 100000 in
set_option maxHeartbeats 1000000 in
theorem classOf_any (w : World) (a : Option Addr) (n cap : Nat) (cs : List Cls) (v1 v2 : Value) (l : List UInt8) (hr : ClsRow w a n cs) (ho : Sorted cs) (hl : l.length ≤ 1000) :
    Calls Tryz.prog 92 #[.agg #[.slice a n cap, v1, v2], .string ⟨l.toArray⟩] w (ClsPost cs l w) := by
  have Hr := Lib.hid hr
  have Ho := Lib.hid ho
  clear hr ho
  go_enter Tryz.func92, Tryz.ntmps92
  go_wp2_with fail
  go_loopw [6] (fun s6 wr => ∃ k : Nat, k ≤ l.length + 1 ∧ s6 = .int .i64 ((k : Int) - 1) ∧ Hid (Below ((w.alloc (.cells #[.slice a n cap, v1, v2] 107)).alloc (.cells #[.string ⟨#[]⟩, .string ⟨#[]⟩, .int .i64 0, .int .i64 0, .int .i64 0, .int .i64 0] 104)).heap.size ((w.alloc (.cells #[.slice a n cap, v1, v2] 107)).alloc (.cells #[.string ⟨#[]⟩, .string ⟨#[]⟩, .int .i64 0, .int .i64 0, .int .i64 0, .int .i64 0] 104)) wr) ∧ Hid (clsOf cs l = match k with | 0 => none | m + 1 => clsTo cs l m)) (fun s6 _ => ((intOf s6) + 1).toNat)
  case atStart => exact ⟨l.length + 1, Nat.le_refl _, by go_num, Below.refl _ _, rfl⟩
  case round =>
    obtain ⟨k, hk, rfl, HB, HC⟩ := hrel
    have hbw : Below w.heap.size w wr := ext_trans (ext_alloc (ext_alloc (Below.refl _ _))) HB.out
    have x0 : wr.cell? ⟨w.heap.size, 0, none⟩ = some (.slice a n cap) := (HB.out.cell (p := ⟨w.heap.size, 0, none⟩) (by simp; omega)).trans (by simp)
    cases k with
    | zero =>
      have r0 : wr.cell? ⟨w.heap.size + 1, 0, none⟩ = some (.string ⟨#[]⟩) := (HB.out.cell (p := ⟨w.heap.size + 1, 0, none⟩) (by simp)).trans (by simp)
      have r1 : wr.cell? ⟨w.heap.size + 1, 1, none⟩ = some (.string ⟨#[]⟩) := (HB.out.cell (p := ⟨w.heap.size + 1, 1, none⟩) (by simp)).trans (by simp)
      have r2 : wr.cell? ⟨w.heap.size + 1, 2, none⟩ = some (.int .i64 0) := (HB.out.cell (p := ⟨w.heap.size + 1, 2, none⟩) (by simp)).trans (by simp)
      have r3 : wr.cell? ⟨w.heap.size + 1, 3, none⟩ = some (.int .i64 0) := (HB.out.cell (p := ⟨w.heap.size + 1, 3, none⟩) (by simp)).trans (by simp)
      have r4 : wr.cell? ⟨w.heap.size + 1, 4, none⟩ = some (.int .i64 0) := (HB.out.cell (p := ⟨w.heap.size + 1, 4, none⟩) (by simp)).trans (by simp)
      have r5 : wr.cell? ⟨w.heap.size + 1, 5, none⟩ = some (.int .i64 0) := (HB.out.cell (p := ⟨w.heap.size + 1, 5, none⟩) (by simp)).trans (by simp)
      have rf : ∀ j, wr.frozen? ⟨w.heap.size + 1, j, none⟩ = false := fun j => (HB.out.frozen (p := ⟨w.heap.size + 1, j, none⟩) (by simp)).trans (by simp)
      go_wp2_with fail
      refine bodyPost_ret (v := .tuple #[.agg #[.string ⟨#[]⟩, .string ⟨#[]⟩, .int .i64 0, .int .i64 0, .int .i64 0, .int .i64 0], .bool false]) (by simp [results, Tryz.results92, go_sem, r0, r1, r2, r3, r4, r5]) rfl ⟨?_, Or.inr ⟨rfl, HC.out⟩⟩
      exact (by (try show Below _ _ _); repeat (with_reducible first | exact Below.refl _ _ | assumption | exact Hid.out (by assumption) | refine ext_alloc ?_ | refine ext_drewN ?_ | refine ext_drew ?_ | refine ext_setCell ?_ (Nat.le_refl _) | refine ext_setCell ?_ (Nat.le_succ _) | refine ext_trans ?_ (by assumption) | (refine ext_setCell ?_ (by simp)) | (refine ext_setCell ?_ (by simp at *; omega))))
    | succ k =>
      have hk1 : ((k + 1 : Nat) : Int) - 1 = (k : Int) := by omega
      rw [hk1]
      clear hk1
      have kl : (k : Int) ≤ (l.length : Int) := by omega
      have kl2 : k ≤ l.length := by omega
      go_wp2_with fail
      go_region_with (go_at_call 142; refine (search_str _ a n cap cs (l.take k) _ (extract_take l k) ?hx Ho.out).mono ?_; exact Hr.out.below (ext_drew hbw); rintro e w1 ⟨i, f, rfl, hB1, hfp⟩)
      have hw1 : Below w.heap.size w w1 := ext_trans (ext_drew hbw) hB1
      have HB1 : Hid (Below ((w.alloc (.cells #[.slice a n cap, v1, v2] 107)).alloc (.cells #[.string ⟨#[]⟩, .string ⟨#[]⟩, .int .i64 0, .int .i64 0, .int .i64 0, .int .i64 0] 104)).heap.size ((w.alloc (.cells #[.slice a n cap, v1, v2] 107)).alloc (.cells #[.string ⟨#[]⟩, .string ⟨#[]⟩, .int .i64 0, .int .i64 0, .int .i64 0, .int .i64 0] 104)) w1) := ext_trans (ext_drew HB.out) hB1
      cases f with
      | false =>
        have hnone := hfp.2 rfl
        go_wp2_with fail
        go_roundw
        case rel => exact ⟨k, by omega, rfl, HB1, by
          show clsOf cs l = _
          rw [HC.out]
          cases k with
          | zero => exact hnone
          | succ m => show (findPre cs (l.take (m + 1))).or (clsTo cs l m) = _; rw [hnone]; rfl⟩
        case measure => simp [intOf]
      | true =>
        obtain ⟨m, hm, rfl, hsome⟩ := hfp.1 rfl
        have hrow := Hr.out.below hw1
        obtain ⟨hn1, hn2, hrow⟩ := hrow
        have hmem : Hid (cs.getD m noCls ∈ cs) := by
          show cs.getD m noCls ∈ cs
          have hm2 : m < cs.length := by omega
          rw [List.getD_eq_getElem?_getD, List.getElem?_eq_getElem hm2]; exact List.getElem_mem hm2
        have hfin : Hid (clsOf cs l = some (cs.getD m noCls)) := by
          show clsOf cs l = _
          rw [HC.out]
          cases k with
          | zero => exact hsome
          | succ q => show (findPre cs (l.take (q + 1))).or (clsTo cs l q) = _; rw [hsome]; rfl
        have Hn1 := Lib.hid hn1
        clear hn1 hsome hfp
        rcases hrow with h0 | ⟨b, off, rfl, hb, hc⟩
        · omega
        obtain ⟨c0, c1, c2, c3, c4, c5⟩ := cls_cells (hc m hm)
        clear hc
        have x1 : w1.cell? ⟨w.heap.size, 0, none⟩ = some (.slice (some ⟨b, off, none⟩) n cap) := (HB1.out.cell (p := ⟨w.heap.size, 0, none⟩) (by simp; omega)).trans (by simp)
        have r0 : w1.cell? ⟨w.heap.size + 1, 0, none⟩ = some (.string ⟨#[]⟩) := (HB1.out.cell (p := ⟨w.heap.size + 1, 0, none⟩) (by simp)).trans (by simp)
        have r1 : w1.cell? ⟨w.heap.size + 1, 1, none⟩ = some (.string ⟨#[]⟩) := (HB1.out.cell (p := ⟨w.heap.size + 1, 1, none⟩) (by simp)).trans (by simp)
        have r2 : w1.cell? ⟨w.heap.size + 1, 2, none⟩ = some (.int .i64 0) := (HB1.out.cell (p := ⟨w.heap.size + 1, 2, none⟩) (by simp)).trans (by simp)
        have r3 : w1.cell? ⟨w.heap.size + 1, 3, none⟩ = some (.int .i64 0) := (HB1.out.cell (p := ⟨w.heap.size + 1, 3, none⟩) (by simp)).trans (by simp)
        have r4 : w1.cell? ⟨w.heap.size + 1, 4, none⟩ = some (.int .i64 0) := (HB1.out.cell (p := ⟨w.heap.size + 1, 4, none⟩) (by simp)).trans (by simp)
        have r5 : w1.cell? ⟨w.heap.size + 1, 5, none⟩ = some (.int .i64 0) := (HB1.out.cell (p := ⟨w.heap.size + 1, 5, none⟩) (by simp)).trans (by simp)
        have rf : ∀ j, w1.frozen? ⟨w.heap.size + 1, j, none⟩ = false := fun j => (HB1.out.frozen (p := ⟨w.heap.size + 1, j, none⟩) (by simp)).trans (by simp)
        have Hb1 := Lib.hid HB1.out
        generalize cs.getD m noCls = cl at c0 c1 c2 c3 c4 c5 hmem hfin
        go_wp2_with fail
        refine bodyPost_ret (v := .tuple #[.agg #[.string ⟨cl.pre.toArray⟩, .string ⟨cl.name.toArray⟩, .int .i64 cl.setup, .int .i64 cl.first, .int .i64 cl.step, .int .i64 cl.rate], .bool true]) (by simp [results, Tryz.results92, go_sem, r0, r1, r2, r3, r4, r5]) rfl ⟨?_, Or.inl ⟨cl, hmem.out, rfl, hfin.out⟩⟩
        exact (by (try show Below _ _ _); repeat (with_reducible first | exact Below.refl _ _ | assumption | exact Hid.out (by assumption) | refine ext_alloc ?_ | refine ext_drewN ?_ | refine ext_drew ?_ | refine ext_setCell ?_ (Nat.le_refl _) | refine ext_setCell ?_ (Nat.le_succ _) | refine ext_trans ?_ (by assumption) | (refine ext_setCell ?_ (by simp)) | (refine ext_setCell ?_ (by simp at *; omega))))
end Go.Proofs.YtkdadbpajhdelaaGreatDoor

namespace Go.Proofs.YtkdadbpajhdelaaGreatDoor
open Go.RowKit
set_option linter.unusedVariables false

/-- A tariff that is right, in memory. -/
structure TariffAt (w : World) (a : Option Addr) (n : Nat) (cs : List Cls) (free : Int) (a2 : Option Addr) (n2 : Nat) (ss : List (List UInt8)) : Prop where
  row : ClsRow w a n cs
  good : ∀ i, i < n → GoodCls (cs.getD i noCls)
  sorted : Sorted cs
  ins : StrRow w a2 n2 ss
  keys : ∀ i, i < n2 → isKeyB (ss.getD i []) = true ∧ (ss.getD i []).length ≤ 1000
  order : ∀ i, 0 < i → i < n2 → leS (ss.getD i []) (ss.getD (i - 1) []) = false
  free0 : 0 ≤ free
  free1 : free ≤ 2592000000

theorem TariffAt.below {w w' : World} {a : Option Addr} {n : Nat} {cs : List Cls} {free : Int} {a2 : Option Addr} {n2 : Nat} {ss : List (List UInt8)} (h : TariffAt w a n cs free a2 n2 ss) (hb : Below w.heap.size w w') : TariffAt w' a n cs free a2 n2 ss :=
  ⟨h.row.below hb, h.good, h.sorted, h.ins.below hb, h.keys, h.order, h.free0, h.free1⟩

theorem checkTariff_at {w : World} {a : Option Addr} {n cap : Nat} {cs : List Cls} {free : Int} {a2 : Option Addr} {n2 cap2 : Nat} {ss : List (List UInt8)} (h : TariffAt w a n cs free a2 n2 ss) :
    Calls Tryz.prog 89 #[.agg #[.slice a n cap, .int .i64 free, .slice a2 n2 cap2]] w fun e w' => e = .returned (.int .i64 0) ∧ Below w.heap.size w w' :=
  checkTariff_ok w a n cap cs free a2 n2 cap2 ss h.row h.good (fun i h0 hi => h.sorted i h0 (by rw [← h.row.1]; exact hi)) h.ins h.keys h.order h.free0 h.free1

theorem TariffAt.mem {w : World} {a : Option Addr} {n : Nat} {cs : List Cls} {free : Int} {a2 : Option Addr} {n2 : Nat} {ss : List (List UInt8)} (h : TariffAt w a n cs free a2 n2 ss) {c : Cls} (hc : c ∈ cs) : GoodCls c := by
  obtain ⟨j, hj, rfl⟩ := List.getElem_of_mem hc
  have := h.good j (by rw [h.row.1]; exact hj)
  simpa [List.getD_eq_getElem?_getD, List.getElem?_eq_getElem hj] using this

def PricePost (cs : List Cls) (l : List UInt8) (talk : Int) (w : World) (e : Ending) (w' : World) : Prop :=
  Below w.heap.size w w' ∧ e = .returned (.tuple #[.int .i64 (match clsOf cs l with | some c => priceI c talk | none => 0), .int .i64 (match clsOf cs l with | some _ => 0 | none => 8)])

set_option maxHeartbeats 1000000 in
theorem price_at {w : World} {a : Option Addr} {n cap : Nat} {cs : List Cls} {free : Int} {a2 : Option Addr} {n2 cap2 : Nat} {ss : List (List UInt8)} (h : TariffAt w a n cs free a2 n2 ss) (l : List UInt8) (hl : isNumB l = true) (hl2 : l.length ≤ 1000) (talk : Int) (t0 : 0 ≤ talk) (t1 : talk ≤ 86400000) :
    Calls Tryz.prog 39 #[.agg #[.slice a n cap, .int .i64 free, .slice a2 n2 cap2], .string ⟨l.toArray⟩, .int .i64 talk] w (PricePost cs l talk w) := by
  have H := Lib.hid h
  clear h
  go_enter Tryz.func39, Tryz.ntmps39
  go_wp2_with fail
  refine (checkTariff_at (H.out.below (ext_alloc (Below.refl _ _)))).mono ?_
  rintro e w1 ⟨rfl, hB1⟩
  obtain ⟨q1, -⟩ := bcell hB1
  go_wp2_with fail
  refine (isNumber_any _ _ (by show l.length ≤ _; omega)).mono ?_
  rw [show isNumB (⟨l.toArray⟩ : ByteArray).data.toList = true from hl]
  rintro e w2 ⟨rfl, hB2⟩
  obtain ⟨q2, -⟩ := bcell hB2
  have z0 : w.heap.size < w1.heap.size := by have := hB1.size; simp at this; omega
  clear hl
  have hw2 : Below w.heap.size w w2 := (by (try show Below _ _ _); repeat (with_reducible first | exact Below.refl _ _ | assumption | exact Hid.out (by assumption) | refine ext_alloc ?_ | refine ext_drewN ?_ | refine ext_drew ?_ | refine ext_setCell ?_ (Nat.le_refl _) | refine ext_setCell ?_ (Nat.le_succ _) | refine ext_trans ?_ (by assumption) | (refine ext_setCell ?_ (by simp)) | (refine ext_setCell ?_ (by simp at *; omega))))
  go_wp2_with (go_at_call 91; refine (within_a _ _ _ _ (by omega) (by omega)).mono ?_; rintro e w' ⟨rfl, rfl⟩)
  refine (classOf_any _ _ _ _ cs _ _ l (H.out.row.below hw2) H.out.sorted hl2).mono ?_
  rintro e w3 ⟨hB3, ⟨c, hc, rfl, hcl⟩ | ⟨rfl, hcl⟩⟩
  · have hfin : Hid (PricePost cs l talk w = fun e w' => Below w.heap.size w w' ∧ e = .returned (.tuple #[.int .i64 (priceI c talk), .int .i64 0])) := by
      funext e w'; simp only [PricePost, hcl]
    have g := H.out.mem hc
    have G := Lib.hid g
    clear g hcl
    go_wp2_with fail
    refine (price_any c talk _ G.out t0 t1).mono ?_
    rintro e w4 ⟨rfl, hB4⟩
    go_wp2_with fail
    go_ret2
    rw [hfin.out]
    exact ⟨(by (try show Below _ _ _); repeat (with_reducible first | exact Below.refl _ _ | assumption | exact Hid.out (by assumption) | refine ext_alloc ?_ | refine ext_drewN ?_ | refine ext_drew ?_ | refine ext_setCell ?_ (Nat.le_refl _) | refine ext_setCell ?_ (Nat.le_succ _) | refine ext_trans ?_ (by assumption) | (refine ext_setCell ?_ (by simp)) | (refine ext_setCell ?_ (by simp at *; omega)))), rfl⟩
  · have hfin : Hid (PricePost cs l talk w = fun e w' => Below w.heap.size w w' ∧ e = .returned (.tuple #[.int .i64 0, .int .i64 8])) := by
      funext e w'; simp only [PricePost, hcl]
    clear hcl
    go_wp2_with fail
    go_ret2
    rw [hfin.out]
    exact ⟨(by (try show Below _ _ _); repeat (with_reducible first | exact Below.refl _ _ | assumption | exact Hid.out (by assumption) | refine ext_alloc ?_ | refine ext_drewN ?_ | refine ext_drew ?_ | refine ext_setCell ?_ (Nat.le_refl _) | refine ext_setCell ?_ (Nat.le_succ _) | refine ext_trans ?_ (by assumption) | (refine ext_setCell ?_ (by simp)) | (refine ext_setCell ?_ (by simp at *; omega)))), rfl⟩
end Go.Proofs.YtkdadbpajhdelaaGreatDoor

namespace Go.Proofs.YtkdadbpajhdelaaGreatDoor
open Go.RowKit

/-- What a byte expands to. -/
def expandI (b : Int) : Int :=
  if (255 - b) / 128 = 1 then -(((2 * ((255 - b) % 16) + 33) * 2 ^ ((255 - b) / 16 % 8).toNat - 33) * 4) - 1 else ((2 * ((255 - b) % 16) + 33) * 2 ^ ((255 - b) / 16 % 8).toNat - 33) * 4

theorem all_bytesI {p : Int → Bool} (h : (List.range 256).all (fun n => p (n : Int)) = true) (b : Int) (h0 : 0 ≤ b) (h1 : b ≤ 255) : p b = true := by
  obtain ⟨n, rfl⟩ := Int.eq_ofNat_of_zero_le h0
  exact List.all_eq_true.1 h n (List.mem_range.2 (by omega))

theorem expand_wraps (b : Int) (h0 : 0 ≤ b) (h1 : b ≤ 255) :
    wrap64 (wrap64 (wrap64 ((2 * ((255 - b) % 16) + 33) * 2 ^ ((255 - b) / 16 % 8).toNat) - 33) * 4) = ((2 * ((255 - b) % 16) + 33) * 2 ^ ((255 - b) / 16 % 8).toNat - 33) * 4 ∧
    wrap64 (wrap64 (-wrap64 (wrap64 (wrap64 ((2 * ((255 - b) % 16) + 33) * 2 ^ ((255 - b) / 16 % 8).toNat) - 33) * 4)) - 1) = -(((2 * ((255 - b) % 16) + 33) * 2 ^ ((255 - b) / 16 % 8).toNat - 33) * 4) - 1 := by
  have := all_bytesI (p := fun b => decide (wrap64 (wrap64 (wrap64 ((2 * ((255 - b) % 16) + 33) * 2 ^ ((255 - b) / 16 % 8).toNat) - 33) * 4) = ((2 * ((255 - b) % 16) + 33) * 2 ^ ((255 - b) / 16 % 8).toNat - 33) * 4 ∧
    wrap64 (wrap64 (-wrap64 (wrap64 (wrap64 ((2 * ((255 - b) % 16) + 33) * 2 ^ ((255 - b) / 16 % 8).toNat) - 33) * 4)) - 1) = -(((2 * ((255 - b) % 16) + 33) * 2 ^ ((255 - b) / 16 % 8).toNat - 33) * 4) - 1)) (by decide +kernel) b h0 h1
  exact of_decide_eq_true this

/-- The exponent of a magnitude. -/
def expoTo (m : Int) : Nat → Nat
  | 0 => 7
  | f + 1 => if 2 ^ (7 - (f + 1) + 6) ≤ m then expoTo m f else 7 - (f + 1)
def expo (m : Int) : Nat := expoTo m 7
def magn (s : Int) : Int := min ((if s < 0 then -s - 1 else s) / 4) 8158 + 33
def compI (s : Int) : Int := 255 - ((if s < 0 then 128 else 0) + 16 * (expo (magn s) : Int) + (magn s / 2 ^ (expo (magn s) + 1) - 16))

theorem expoTo_up0 (m : Int) (h : 64 ≤ m) : expoTo m (7 - 0) = expoTo m (7 - 1) := by
  show (if (2 : Int) ^ (7 - (6 + 1) + 6) ≤ m then _ else _) = _
  rw [show (2 : Int) ^ (7 - (6 + 1) + 6) = 64 by decide, if_pos h]
theorem expoTo_out0 (m : Int) (h : ¬ 64 ≤ m) : expoTo m (7 - 0) = 0 := by
  show (if (2 : Int) ^ (7 - (6 + 1) + 6) ≤ m then _ else _) = _
  rw [show (2 : Int) ^ (7 - (6 + 1) + 6) = 64 by decide, if_neg h]
theorem expoTo_up1 (m : Int) (h : 128 ≤ m) : expoTo m (7 - 1) = expoTo m (7 - 2) := by
  show (if (2 : Int) ^ (7 - (5 + 1) + 6) ≤ m then _ else _) = _
  rw [show (2 : Int) ^ (7 - (5 + 1) + 6) = 128 by decide, if_pos h]
theorem expoTo_out1 (m : Int) (h : ¬ 128 ≤ m) : expoTo m (7 - 1) = 1 := by
  show (if (2 : Int) ^ (7 - (5 + 1) + 6) ≤ m then _ else _) = _
  rw [show (2 : Int) ^ (7 - (5 + 1) + 6) = 128 by decide, if_neg h]
theorem expoTo_up2 (m : Int) (h : 256 ≤ m) : expoTo m (7 - 2) = expoTo m (7 - 3) := by
  show (if (2 : Int) ^ (7 - (4 + 1) + 6) ≤ m then _ else _) = _
  rw [show (2 : Int) ^ (7 - (4 + 1) + 6) = 256 by decide, if_pos h]
theorem expoTo_out2 (m : Int) (h : ¬ 256 ≤ m) : expoTo m (7 - 2) = 2 := by
  show (if (2 : Int) ^ (7 - (4 + 1) + 6) ≤ m then _ else _) = _
  rw [show (2 : Int) ^ (7 - (4 + 1) + 6) = 256 by decide, if_neg h]
theorem expoTo_up3 (m : Int) (h : 512 ≤ m) : expoTo m (7 - 3) = expoTo m (7 - 4) := by
  show (if (2 : Int) ^ (7 - (3 + 1) + 6) ≤ m then _ else _) = _
  rw [show (2 : Int) ^ (7 - (3 + 1) + 6) = 512 by decide, if_pos h]
theorem expoTo_out3 (m : Int) (h : ¬ 512 ≤ m) : expoTo m (7 - 3) = 3 := by
  show (if (2 : Int) ^ (7 - (3 + 1) + 6) ≤ m then _ else _) = _
  rw [show (2 : Int) ^ (7 - (3 + 1) + 6) = 512 by decide, if_neg h]
theorem expoTo_up4 (m : Int) (h : 1024 ≤ m) : expoTo m (7 - 4) = expoTo m (7 - 5) := by
  show (if (2 : Int) ^ (7 - (2 + 1) + 6) ≤ m then _ else _) = _
  rw [show (2 : Int) ^ (7 - (2 + 1) + 6) = 1024 by decide, if_pos h]
theorem expoTo_out4 (m : Int) (h : ¬ 1024 ≤ m) : expoTo m (7 - 4) = 4 := by
  show (if (2 : Int) ^ (7 - (2 + 1) + 6) ≤ m then _ else _) = _
  rw [show (2 : Int) ^ (7 - (2 + 1) + 6) = 1024 by decide, if_neg h]
theorem expoTo_up5 (m : Int) (h : 2048 ≤ m) : expoTo m (7 - 5) = expoTo m (7 - 6) := by
  show (if (2 : Int) ^ (7 - (1 + 1) + 6) ≤ m then _ else _) = _
  rw [show (2 : Int) ^ (7 - (1 + 1) + 6) = 2048 by decide, if_pos h]
theorem expoTo_out5 (m : Int) (h : ¬ 2048 ≤ m) : expoTo m (7 - 5) = 5 := by
  show (if (2 : Int) ^ (7 - (1 + 1) + 6) ≤ m then _ else _) = _
  rw [show (2 : Int) ^ (7 - (1 + 1) + 6) = 2048 by decide, if_neg h]
theorem expoTo_up6 (m : Int) (h : 4096 ≤ m) : expoTo m (7 - 6) = expoTo m (7 - 7) := by
  show (if (2 : Int) ^ (7 - (0 + 1) + 6) ≤ m then _ else _) = _
  rw [show (2 : Int) ^ (7 - (0 + 1) + 6) = 4096 by decide, if_pos h]
theorem expoTo_out6 (m : Int) (h : ¬ 4096 ≤ m) : expoTo m (7 - 6) = 6 := by
  show (if (2 : Int) ^ (7 - (0 + 1) + 6) ≤ m then _ else _) = _
  rw [show (2 : Int) ^ (7 - (0 + 1) + 6) = 4096 by decide, if_neg h]
theorem expoTo_out7 (m : Int) : expoTo m (7 - 7) = 7 := rfl

theorem expo_cases (m : Int) (h0 : 33 ≤ m) (h1 : m ≤ 8191) : (32 ≤ m ∧ m < 64 ∧ expo m = 0) ∨ (64 ≤ m ∧ m < 128 ∧ expo m = 1) ∨ (128 ≤ m ∧ m < 256 ∧ expo m = 2) ∨ (256 ≤ m ∧ m < 512 ∧ expo m = 3) ∨ (512 ≤ m ∧ m < 1024 ∧ expo m = 4) ∨ (1024 ≤ m ∧ m < 2048 ∧ expo m = 5) ∨ (2048 ≤ m ∧ m < 4096 ∧ expo m = 6) ∨ (4096 ≤ m ∧ m < 8192 ∧ expo m = 7) := by
  unfold expo
  simp only [expoTo]
  repeat' split
  all_goals omega

theorem magn_range (s : Int) (h0 : -32768 ≤ s) (h1 : s ≤ 32767) : 33 ≤ magn s ∧ magn s ≤ 8191 := by
  unfold magn; split <;> omega

/-- What a byte with a sign, an exponent and a fraction expands to. -/
theorem expand_parts (sg e f : Int) (hs : sg = 0 ∨ sg = 128) (h0 : 0 ≤ e) (h1 : e ≤ 7) (f0 : 0 ≤ f) (f1 : f ≤ 15) :
    expandI (255 - (sg + 16 * e + f)) = if sg = 128 then -(((2 * f + 33) * 2 ^ e.toNat - 33) * 4) - 1 else ((2 * f + 33) * 2 ^ e.toNat - 33) * 4 := by
  unfold expandI
  have a1 : (255 - (255 - (sg + 16 * e + f))) % 16 = f := by omega
  have a2 : (255 - (255 - (sg + 16 * e + f))) / 16 % 8 = e := by omega
  rw [a1, a2]
  rcases hs with rfl | rfl
  · rw [if_neg (by omega), if_neg (by omega)]
  · rw [if_pos (by omega), if_pos rfl]

/-- Where a sample comes to, by its magnitude. -/
def backTo (m : Int) : Int := if m < 64 then (m / 2 * 2 + 1 - 33) * 4 else if m < 128 then (m / 4 * 4 + 2 - 33) * 4 else if m < 256 then (m / 8 * 8 + 4 - 33) * 4 else if m < 512 then (m / 16 * 16 + 8 - 33) * 4 else if m < 1024 then (m / 32 * 32 + 16 - 33) * 4 else if m < 2048 then (m / 64 * 64 + 32 - 33) * 4 else if m < 4096 then (m / 128 * 128 + 64 - 33) * 4 else (m / 256 * 256 + 128 - 33) * 4

theorem comp_back (s : Int) (h0 : -32768 ≤ s) (h1 : s ≤ 32767) : (0 ≤ compI s ∧ compI s ≤ 255) ∧ expandI (compI s) = if s < 0 then -(backTo (magn s)) - 1 else backTo (magn s) := by
  obtain ⟨m0, m1⟩ := magn_range s h0 h1
  unfold compI
  generalize magn s = m at m0 m1
  have hsg : (if s < 0 then (128 : Int) else 0) = 0 ∨ (if s < 0 then (128 : Int) else 0) = 128 := by split <;> omega
  have hsg2 : ((if s < 0 then (128 : Int) else 0) = 128) ↔ s < 0 := by split <;> simp [*]
  generalize (if s < 0 then (128 : Int) else 0) = sg at hsg hsg2
  rcases expo_cases m m0 m1 with ⟨a, b, c⟩ | ⟨a, b, c⟩ | ⟨a, b, c⟩ | ⟨a, b, c⟩ | ⟨a, b, c⟩ | ⟨a, b, c⟩ | ⟨a, b, c⟩ | ⟨a, b, c⟩
  · rw [c]
    have f0 : 0 ≤ m / 2 ^ (0 + 1) - 16 := by omega
    have f1 : m / 2 ^ (0 + 1) - 16 ≤ 15 := by omega
    refine ⟨by omega, ?_⟩
    rw [expand_parts sg ((0 : Nat) : Int) _ hsg (by omega) (by omega) f0 f1]
    have hb : backTo m = ((2 * (m / 2 ^ (0 + 1) - 16) + 33) * 2 ^ ((0 : Nat) : Int).toNat - 33) * 4 := by
      unfold backTo
      simp only [Int.toNat_natCast]
      (repeat rw [if_neg (by omega)])
      (try rw [if_pos (by omega)])
      omega
    rw [hb]
    by_cases hs : s < 0
    · rw [if_pos (hsg2.2 hs), if_pos hs]
    · rw [if_neg (fun h => hs (hsg2.1 h)), if_neg hs]
  · rw [c]
    have f0 : 0 ≤ m / 2 ^ (1 + 1) - 16 := by omega
    have f1 : m / 2 ^ (1 + 1) - 16 ≤ 15 := by omega
    refine ⟨by omega, ?_⟩
    rw [expand_parts sg ((1 : Nat) : Int) _ hsg (by omega) (by omega) f0 f1]
    have hb : backTo m = ((2 * (m / 2 ^ (1 + 1) - 16) + 33) * 2 ^ ((1 : Nat) : Int).toNat - 33) * 4 := by
      unfold backTo
      simp only [Int.toNat_natCast]
      (repeat rw [if_neg (by omega)])
      (try rw [if_pos (by omega)])
      omega
    rw [hb]
    by_cases hs : s < 0
    · rw [if_pos (hsg2.2 hs), if_pos hs]
    · rw [if_neg (fun h => hs (hsg2.1 h)), if_neg hs]
  · rw [c]
    have f0 : 0 ≤ m / 2 ^ (2 + 1) - 16 := by omega
    have f1 : m / 2 ^ (2 + 1) - 16 ≤ 15 := by omega
    refine ⟨by omega, ?_⟩
    rw [expand_parts sg ((2 : Nat) : Int) _ hsg (by omega) (by omega) f0 f1]
    have hb : backTo m = ((2 * (m / 2 ^ (2 + 1) - 16) + 33) * 2 ^ ((2 : Nat) : Int).toNat - 33) * 4 := by
      unfold backTo
      simp only [Int.toNat_natCast]
      (repeat rw [if_neg (by omega)])
      (try rw [if_pos (by omega)])
      omega
    rw [hb]
    by_cases hs : s < 0
    · rw [if_pos (hsg2.2 hs), if_pos hs]
    · rw [if_neg (fun h => hs (hsg2.1 h)), if_neg hs]
  · rw [c]
    have f0 : 0 ≤ m / 2 ^ (3 + 1) - 16 := by omega
    have f1 : m / 2 ^ (3 + 1) - 16 ≤ 15 := by omega
    refine ⟨by omega, ?_⟩
    rw [expand_parts sg ((3 : Nat) : Int) _ hsg (by omega) (by omega) f0 f1]
    have hb : backTo m = ((2 * (m / 2 ^ (3 + 1) - 16) + 33) * 2 ^ ((3 : Nat) : Int).toNat - 33) * 4 := by
      unfold backTo
      simp only [Int.toNat_natCast]
      (repeat rw [if_neg (by omega)])
      (try rw [if_pos (by omega)])
      omega
    rw [hb]
    by_cases hs : s < 0
    · rw [if_pos (hsg2.2 hs), if_pos hs]
    · rw [if_neg (fun h => hs (hsg2.1 h)), if_neg hs]
  · rw [c]
    have f0 : 0 ≤ m / 2 ^ (4 + 1) - 16 := by omega
    have f1 : m / 2 ^ (4 + 1) - 16 ≤ 15 := by omega
    refine ⟨by omega, ?_⟩
    rw [expand_parts sg ((4 : Nat) : Int) _ hsg (by omega) (by omega) f0 f1]
    have hb : backTo m = ((2 * (m / 2 ^ (4 + 1) - 16) + 33) * 2 ^ ((4 : Nat) : Int).toNat - 33) * 4 := by
      unfold backTo
      simp only [Int.toNat_natCast]
      (repeat rw [if_neg (by omega)])
      (try rw [if_pos (by omega)])
      omega
    rw [hb]
    by_cases hs : s < 0
    · rw [if_pos (hsg2.2 hs), if_pos hs]
    · rw [if_neg (fun h => hs (hsg2.1 h)), if_neg hs]
  · rw [c]
    have f0 : 0 ≤ m / 2 ^ (5 + 1) - 16 := by omega
    have f1 : m / 2 ^ (5 + 1) - 16 ≤ 15 := by omega
    refine ⟨by omega, ?_⟩
    rw [expand_parts sg ((5 : Nat) : Int) _ hsg (by omega) (by omega) f0 f1]
    have hb : backTo m = ((2 * (m / 2 ^ (5 + 1) - 16) + 33) * 2 ^ ((5 : Nat) : Int).toNat - 33) * 4 := by
      unfold backTo
      simp only [Int.toNat_natCast]
      (repeat rw [if_neg (by omega)])
      (try rw [if_pos (by omega)])
      omega
    rw [hb]
    by_cases hs : s < 0
    · rw [if_pos (hsg2.2 hs), if_pos hs]
    · rw [if_neg (fun h => hs (hsg2.1 h)), if_neg hs]
  · rw [c]
    have f0 : 0 ≤ m / 2 ^ (6 + 1) - 16 := by omega
    have f1 : m / 2 ^ (6 + 1) - 16 ≤ 15 := by omega
    refine ⟨by omega, ?_⟩
    rw [expand_parts sg ((6 : Nat) : Int) _ hsg (by omega) (by omega) f0 f1]
    have hb : backTo m = ((2 * (m / 2 ^ (6 + 1) - 16) + 33) * 2 ^ ((6 : Nat) : Int).toNat - 33) * 4 := by
      unfold backTo
      simp only [Int.toNat_natCast]
      (repeat rw [if_neg (by omega)])
      (try rw [if_pos (by omega)])
      omega
    rw [hb]
    by_cases hs : s < 0
    · rw [if_pos (hsg2.2 hs), if_pos hs]
    · rw [if_neg (fun h => hs (hsg2.1 h)), if_neg hs]
  · rw [c]
    have f0 : 0 ≤ m / 2 ^ (7 + 1) - 16 := by omega
    have f1 : m / 2 ^ (7 + 1) - 16 ≤ 15 := by omega
    refine ⟨by omega, ?_⟩
    rw [expand_parts sg ((7 : Nat) : Int) _ hsg (by omega) (by omega) f0 f1]
    have hb : backTo m = ((2 * (m / 2 ^ (7 + 1) - 16) + 33) * 2 ^ ((7 : Nat) : Int).toNat - 33) * 4 := by
      unfold backTo
      simp only [Int.toNat_natCast]
      (repeat rw [if_neg (by omega)])
      (try rw [if_pos (by omega)])
      omega
    rw [hb]
    by_cases hs : s < 0
    · rw [if_pos (hsg2.2 hs), if_pos hs]
    · rw [if_neg (fun h => hs (hsg2.1 h)), if_neg hs]

theorem comp_range (s : Int) (h0 : -32768 ≤ s) (h1 : s ≤ 32767) : 0 ≤ compI s ∧ compI s ≤ 255 := (comp_back s h0 h1).1

set_option maxHeartbeats 4000000 in
theorem back_mono (a b : Int) (h : a ≤ b) (h0 : 33 ≤ a) (h1 : b ≤ 8191) : backTo a ≤ backTo b ∧ 0 ≤ backTo a ∧ backTo b ≤ 32124 := by
  unfold backTo
  refine ⟨?_, ?_, ?_⟩ <;> (repeat' split) <;> omega

theorem comp_mono (s t : Int) (h : s ≤ t) (h0 : -32768 ≤ s) (h1 : t ≤ 32767) : expandI (compI s) ≤ expandI (compI t) := by
  rw [(comp_back s h0 (by omega)).2, (comp_back t (by omega) h1).2]
  have ms := magn_range s h0 (by omega)
  have mt := magn_range t (by omega) h1
  by_cases hs : s < 0
  · by_cases ht : t < 0
    · rw [if_pos hs, if_pos ht]
      have : magn t ≤ magn s := by unfold magn; rw [if_pos hs, if_pos ht]; omega
      have := back_mono _ _ this mt.1 ms.2
      omega
    · rw [if_pos hs, if_neg ht]
      have a := back_mono _ _ (Int.le_refl (magn s)) ms.1 ms.2
      have b := back_mono _ _ (Int.le_refl (magn t)) mt.1 mt.2
      omega
  · rw [if_neg hs, if_neg (by omega)]
    have : magn s ≤ magn t := by unfold magn; rw [if_neg hs, if_neg (by omega)]; omega
    exact (back_mono _ _ this ms.1 mt.2).1

theorem comp_near (s : Int) (h0 : -32768 ≤ s) (h1 : s ≤ 32767) : max (expandI (compI s) - s) (s - expandI (compI s)) ≤ max s (-s) / 16 + 132 := by
  rw [(comp_back s h0 h1).2]
  obtain ⟨m0, m1⟩ := magn_range s h0 h1
  by_cases hs : s < 0
  · rw [if_pos hs]
    have hm : magn s = min ((-s - 1) / 4) 8158 + 33 := by unfold magn; rw [if_pos hs]
    generalize magn s = m at *
    unfold backTo
    (repeat' split) <;> omega
  · rw [if_neg hs]
    have hm : magn s = min (s / 4) 8158 + 33 := by unfold magn; rw [if_neg hs]
    generalize magn s = m at *
    unfold backTo
    (repeat' split) <;> omega

theorem expand_sample (b : Int) (h0 : 0 ≤ b) (h1 : b ≤ 255) : -32768 ≤ expandI b ∧ expandI b ≤ 32767 ∧ compI (expandI b) = b :=
  of_decide_eq_true (all_bytesI (p := fun b => decide (-32768 ≤ expandI b ∧ expandI b ≤ 32767 ∧ compI (expandI b) = b)) (by decide +kernel) b h0 h1)
end Go.Proofs.YtkdadbpajhdelaaGreatDoor

namespace Go.Proofs.YtkdadbpajhdelaaGreatDoor
open Go.RowKit
set_option linter.unusedVariables false
set_option linter.unusedSimpArgs false

set_option maxHeartbeats 1000000 in
theorem errs_zero (w : World) (b n cap : Nat) (hn : n ≤ 100) (hc : ∀ i, i < n → w.cell? ⟨b, i, none⟩ = some (.int .i64 0)) :
    Calls Tryz.prog 40 #[.slice (some ⟨b, 0, none⟩) n cap] w fun e w' => e = .returned (.int .i64 0) ∧ w = w' := by
  have Hc := Lib.hid hc
  clear hc
  go_enter Tryz.func40, Tryz.ntmps40
  go_wp2_with fail
  go_loop [7] (fun i => ∃ k : Nat, k ≤ n ∧ i = .int .i64 k) (fun i => n - (intOf i).toNat)
  case atStart => exact ⟨0, Nat.zero_le _, rfl⟩
  case round =>
    obtain ⟨k, hk, rfl⟩ := hrel
    by_cases hlt : k < n
    · have hc := Hc.out k hlt
      go_wp2_with fail
      go_round
      case rel => exact ⟨k + 1, by omega, by go_num⟩
      case measure => simp [intOf]; omega
    · go_wp2_with fail
      go_ret
      exact ⟨rfl, rfl⟩

theorem expand_any (b : Int) (w : World) (h0 : 0 ≤ b) (h1 : b ≤ 255) :
    Calls Tryz.prog 41 #[.int .u8 b] w fun e w' => e = .returned (.int .i64 (expandI b)) ∧ w = w' := by
  have hw := Lib.hid (expand_wraps b h0 h1)
  by_cases hs : (255 - b) / 128 = 1
  · have hd : Hid (expandI b = -(((2 * ((255 - b) % 16) + 33) * 2 ^ ((255 - b) / 16 % 8).toNat - 33) * 4) - 1) := by show expandI b = _; unfold expandI; rw [if_pos hs]
    have hs2 : ((255 - b) / 128 == 1) = true := by simpa using hs
    clear hs
    go_enter Tryz.func41, Tryz.ntmps41
    go_wp2_with fail
    go_ret
    exact ⟨ret_int (by rw [hd.out]; exact hw.out.2), rfl⟩
  · have hd : Hid (expandI b = ((2 * ((255 - b) % 16) + 33) * 2 ^ ((255 - b) / 16 % 8).toNat - 33) * 4) := by show expandI b = _; unfold expandI; rw [if_neg hs]
    have hs2 : ((255 - b) / 128 == 1) = false := by simpa using hs
    clear hs
    go_enter Tryz.func41, Tryz.ntmps41
    go_wp2_with fail
    go_ret
    exact ⟨ret_int (by rw [hd.out]; exact hw.out.1), rfl⟩

def aClass : Cls := ⟨[43, 49], [97], 0, 0, 1000, 7⟩
theorem aClass_good : GoodCls aClass := ⟨by decide, by decide, by decide, by decide, by decide, by decide, by decide, by decide, by decide, by decide, by decide, by decide⟩

theorem ready_tariff (w : World) (b : Nat) (hb : b < w.heap.size) (h0 : w.cell? ⟨b, 0, none⟩ = some (.string ⟨#[43, 49]⟩)) (h1 : w.cell? ⟨b, 1, none⟩ = some (.string ⟨#[97]⟩)) (h2 : w.cell? ⟨b, 2, none⟩ = some (.int .i64 0)) (h3 : w.cell? ⟨b, 3, none⟩ = some (.int .i64 0)) (h4 : w.cell? ⟨b, 4, none⟩ = some (.int .i64 1000)) (h5 : w.cell? ⟨b, 5, none⟩ = some (.int .i64 7)) :
    TariffAt w (some ⟨b, 0, none⟩) 1 [aClass] 0 none 0 [] where
  row := ⟨rfl, by omega, Or.inr ⟨b, 0, rfl, hb, fun i hi j hj => by
    obtain rfl : i = 0 := by omega
    match j, hj with
    | 0, _ => exact h0
    | 1, _ => exact h1
    | 2, _ => exact h2
    | 3, _ => exact h3
    | 4, _ => exact h4
    | 5, _ => exact h5⟩⟩
  good := fun i hi => by
    obtain rfl : i = 0 := by omega
    exact aClass_good
  sorted := fun i h0 h1 => by simp at h1; omega
  ins := ⟨rfl, by omega, Or.inl rfl⟩
  keys := fun i hi => by omega
  order := fun i h0 h1 => by omega
  free0 := by omega
  free1 := by omega

set_option maxHeartbeats 1000000 in
theorem price_ready (w : World) (b : Nat) (hb : b < w.heap.size) (h0 : w.cell? ⟨b, 0, none⟩ = some (.string ⟨#[43, 49]⟩)) (h1 : w.cell? ⟨b, 1, none⟩ = some (.string ⟨#[97]⟩)) (h2 : w.cell? ⟨b, 2, none⟩ = some (.int .i64 0)) (h3 : w.cell? ⟨b, 3, none⟩ = some (.int .i64 0)) (h4 : w.cell? ⟨b, 4, none⟩ = some (.int .i64 1000)) (h5 : w.cell? ⟨b, 5, none⟩ = some (.int .i64 7)) :
    Calls Tryz.prog 39 #[.agg #[.slice (some ⟨b, 0, none⟩) 1 1, .int .i64 0, .slice none 0 0], .string ⟨#[43, 49, 50, 48, 48]⟩, .int .i64 1500] w fun e w' => e = .returned (.tuple #[.int .i64 14, .int .i64 0]) ∧ Below w.heap.size w w' := by
  refine (price_at (ready_tariff w b hb h0 h1 h2 h3 h4 h5) [43, 49, 50, 48, 48] (by decide) (by decide) 1500 (by omega) (by omega)).mono ?_
  rintro e w' ⟨hB, rfl⟩
  exact ⟨rfl, hB⟩

theorem expand_128 (w : World) : Calls Tryz.prog 41 #[.int .u8 128] w fun e w' => e = .returned (.int .i64 32124) ∧ w = w' := expand_any 128 w (by omega) (by omega)

set_option maxRecDepth 100000 in
set_option maxHeartbeats 2000000 in
theorem ready_true (w : World) (ht : TabAt w) : Calls Tryz.prog 14 #[] w fun e w' => e = .returned (.bool true) ∧ Below w.heap.size w w' := by
  have HT := Lib.hid ht
  clear ht
  go_enter Tryz.func14, Tryz.ntmps14
  go_wp2_with fail
  refine (least_ready _ HT.out).mono ?_
  rintro e w1 ⟨rfl, hB1⟩
  go_wp2_with fail
  refine (present_ready _).mono ?_
  rintro e w2 ⟨rfl, hB2⟩
  go_wp2_with fail
  refine (ends_ready _).mono ?_
  rintro e w3 ⟨rfl, hB3⟩
  go_wp2_with fail
  refine (price_ready _ _ ?_ ?_ ?_ ?_ ?_ ?_ ?_).mono ?_
  · simp
  iterate 6 (focus (go_simp; done))
  rintro e w4 ⟨rfl, hB4⟩
  go_wp2_with fail
  refine (errs_zero _ _ 4 4 (by omega) ?_).mono ?_
  · intro i hi
    match i, hi with
    | 0, _ => go_simp
    | 1, _ => go_simp
    | 2, _ => go_simp
    | 3, _ => go_simp
  rintro e w5 ⟨rfl, rfl⟩
  go_wp2_with fail
  refine (expand_128 _).mono ?_
  rintro e w6 ⟨rfl, rfl⟩
  go_wp2_with fail
  go_ret
  exact ⟨rfl, (by (try show Below _ _ _); repeat (with_reducible first | exact Below.refl _ _ | assumption | exact Hid.out (by assumption) | refine ext_alloc ?_ | refine ext_drewN ?_ | refine ext_drew ?_ | refine ext_setCell ?_ (Nat.le_refl _) | refine ext_setCell ?_ (Nat.le_succ _) | refine ext_trans ?_ (by assumption) | (refine ext_setCell ?_ (by simp)) | (refine ext_setCell ?_ (by simp at *; omega))))⟩
end Go.Proofs.YtkdadbpajhdelaaGreatDoor

set_option linter.unusedVariables false
set_option linter.unusedSimpArgs false
namespace Go.Proofs.YtkdadbpajhdelaaGreatDoor
open Go.RowKit Go.Sort Go.Lib Go.Shelf

theorem infoPairC : (Tryz.prog.info? 41).map (fun i => (i.zero, i.size, i.bytes)) = some (some (.agg #[.string ⟨#[]⟩, .string ⟨#[]⟩]), 2, 32) := by kernel_rfl
def lineB (x : Fin 5) : ByteArray := ⟨(lineK x.val).toArray⟩
theorem lineB_inj {x y : Fin 5} (h : lineB x = lineB y) : x = y := Fin.ext (line_inj _ x.isLt _ y.isLt (mk_inj.1 h))
theorem chain_fresh {cs : List (Fin 5)} (h : cs.Pairwise (· ≠ ·)) {i : Nat} (hi : i < cs.length) : Lib.containsS ((cs.map lineB).take i) (lineB (cs.getD i 0)) = false := by
  cases hc : Lib.containsS ((cs.map lineB).take i) (lineB (cs.getD i 0)) with
  | false => rfl
  | true =>
    rw [Lib.containsS_iff] at hc
    obtain ⟨j, hj, e⟩ := List.getElem_of_mem hc
    rw [List.length_take, List.length_map] at hj
    rw [List.getElem_take, List.getElem_map] at e
    have h9 := List.pairwise_iff_getElem.1 h j i (by omega) hi (by omega)
    rw [List.getD_eq_getElem?_getD, List.getElem?_eq_getElem hi] at e
    exact absurd (lineB_inj e) h9
theorem link_any {fs : List Fwd} {cs : List (Fin 5)} (h : Linked fs cs) {i : Nat} (hi : i + 1 < cs.length) : (fs.any fun x => decide (x.line.val = (cs.getD i 0).val) && decide (x.to_ = cs.getD (i + 1) 0)) = true := by
  obtain ⟨f, hf, e1, e2⟩ := h i hi
  rw [List.any_eq_true]
  exact ⟨f, hf, by rw [decide_eq_true e1, decide_eq_true e2]; rfl⟩
theorem line5_cell (j : Nat) (hj : j < 5) : ([.string ⟨#[108, 97]⟩, .string ⟨#[108, 98]⟩, .string ⟨#[108, 99]⟩, .string ⟨#[108, 100]⟩, .string ⟨#[108, 101]⟩] : List Value)[j]? = some (.string ⟨(lineK j).toArray⟩) := by
  have : j = 0 ∨ j = 1 ∨ j = 2 ∨ j = 3 ∨ j = 4 := by omega
  rcases this with rfl | rfl | rfl | rfl | rfl <;> rfl
theorem line4_cell (j : Nat) (hj : j < 4) : ([.string ⟨#[108, 97]⟩, .string ⟨#[108, 98]⟩, .string ⟨#[108, 99]⟩, .string ⟨#[108, 100]⟩] : List Value)[j]? = some (.string ⟨(lineK j).toArray⟩) := by
  have : j = 0 ∨ j = 1 ∨ j = 2 ∨ j = 3 := by omega
  rcases this with rfl | rfl | rfl | rfl <;> rfl
theorem chain_has {w : World} {g c : Nat} {cs : List (Fin 5)} (hc : ∀ j, j < cs.length → w.cell? ⟨g, j, none⟩ = some (.string (lineB (cs.getD j 0)))) (h : cs.Pairwise (· ≠ ·)) (i : Nat) (hi : i < cs.length) (hl : cs.length ≤ 5) :
    Calls Tryz.prog 11 #[.slice (some ⟨g, 0, none⟩) i c, .string (lineB (cs.getD i 0))] w fun e w' => e = .returned (.bool false) ∧ w' = w := by
  refine (Tryz.slices_hasS g 0 i c (cs.map lineB) (lineB (cs.getD i 0)) w (by rw [List.length_map]; omega) (by omega) (fun j hj => ?_)).mono ?_
  · have hj' : j < cs.length := by simpa using hj
    rw [Nat.zero_add, hc j hj']
    simp [hj']
  · rintro e w' ⟨rfl, rfl⟩
    exact ⟨by rw [chain_fresh h hi], rfl⟩
theorem chain_cell {w : World} {base g n c : Nat} {cs : List (Fin 5)} (h : w.ownsRow base 9 1 (.slice (some ⟨g, 0, none⟩) n c) n ((cs.map (fun c => lineK c.val)).map encS)) (j : Nat) (hj : j < cs.length) : w.cell? ⟨g, j, none⟩ = some (.string (lineB (cs.getD j 0))) := by
  have hl : cs.length = n := by have := h.1; simpa using this
  rw [h.cellAt j (by omega)]
  simp [encS, lineB, List.getD_eq_getElem?_getD, hj]
theorem bl_lch0 (e : Operand → Value) (he : ∀ v, e (.const v) = v) (o : Oper) (w : World)  (p0 : ByteArray) (p1 : ByteArray) (p2 : ByteArray) (p3 : ByteArray) (p4 : ByteArray) (ho : o.op = .buildSlice 33 5 #[(0, .const (.string p0)), (1, .const (.string p1)), (2, .const (.string p2)), (3, .const (.string p3)), (4, .const (.string p4))])  :
   (execOp e o).run Tryz.prog w = .ok (.value (.slice (some ⟨w.heap.size, 0, none⟩) 5 5)) (w.alloc (.cells #[.string p0, .string p1, .string p2, .string p3, .string p4] 9)) := by
  unfold execOp
  rw [ho]
  simp only [List.map_toArray, List.map_cons, List.map_nil, he]
  kernel_rfl
theorem bl_lch1 (e : Operand → Value) (he : ∀ v, e (.const v) = v) (o : Oper) (w : World)  (p0 : ByteArray) (p1 : ByteArray) (p2 : ByteArray) (p3 : ByteArray) (ho : o.op = .buildSlice 33 4 #[(0, .const (.string p0)), (1, .const (.string p1)), (2, .const (.string p2)), (3, .const (.string p3))])  :
   (execOp e o).run Tryz.prog w = .ok (.value (.slice (some ⟨w.heap.size, 0, none⟩) 4 4)) (w.alloc (.cells #[.string p0, .string p1, .string p2, .string p3] 9)) := by
  unfold execOp
  rw [ho]
  simp only [List.map_toArray, List.map_cons, List.map_nil, he]
  kernel_rfl
theorem bl_lch2 (e : Operand → Value) (he : ∀ v, e (.const v) = v) (o : Oper) (w : World)  (p0 : ByteArray) (p1 : ByteArray) (ho : o.op = .buildSlice 33 2 #[(0, .const (.string p0)), (1, .const (.string p1))])  :
   (execOp e o).run Tryz.prog w = .ok (.value (.slice (some ⟨w.heap.size, 0, none⟩) 2 2)) (w.alloc (.cells #[.string p0, .string p1] 9)) := by
  unfold execOp
  rw [ho]
  simp only [List.map_toArray, List.map_cons, List.map_nil, he]
  kernel_rfl
theorem bl_lch3 (e : Operand → Value) (he : ∀ v, e (.const v) = v) (o : Oper) (w : World) (i0 : Nat) (p0_0 : ByteArray) (p0_1 : ByteArray) (ho : o.op = .buildSlice 38 1 #[(0, .tmp i0)]) (h0 : e (.tmp i0) = .agg #[.string p0_0, .string p0_1]) :
   (execOp e o).run Tryz.prog w = .ok (.value (.slice (some ⟨w.heap.size, 0, none⟩) 1 1)) (w.alloc (.cells #[.string p0_0, .string p0_1] 41)) := by
  unfold execOp
  rw [ho]
  simp only [List.map_toArray, List.map_cons, List.map_nil, h0]
  kernel_rfl
set_option maxRecDepth 100000 in
set_option maxHeartbeats 40000000 in
theorem chains_true (w : World) (a0 : Option Addr) (len cap : Nat) (zs : List Int) (hr : ArgRow w a0 len cap zs) (ht : TabAt w) :
    Calls Tryz.prog 3 #[.slice a0 len cap] w fun e w' => e = .returned (.bool true) ∧ Below w.heap.size w w' := by
  have HS0 := Lib.hid (stream_start hr)
  have HT0 : Hid (TabAt (w.alloc (.cells #[.slice a0 len cap, .int .i64 0] 25))) := ht.below (ext_alloc (Below.refl _ _))
  have HTN : Hid (1 ≠ w.heap.size) := by have := ht.1; show _ ≠ _; omega
  have HEND : Hid (∀ W, Keeps w.heap.size (w.alloc (.cells #[.slice a0 len cap, .int .i64 0] 25)) W → Below w.heap.size w W) := fun W h => law_end h
  obtain ⟨ip, hip, hpz0, hpz1, hpz2⟩ := info_parts infoPairC
  clear hr ht
  go_enter Tryz.func3, Tryz.ntmps3
  go_wp2_with fail
  refine (rightPlan_any w.heap.size 0 0 (by decide) _ HS0.out (by omega)).mono ?_
  rintro e w1 ⟨p, he, hfine, hst, hk'⟩
  obtain ⟨pp, hpp⟩ : ∃ x, x = p := ⟨_, rfl⟩
  have HFP : Hid (∀ W, Keeps w.heap.size w1 W → DPlanFine W pp) := by rw [hpp]; exact hfine
  have HPP := Lib.hid hpp
  obtain ⟨ca, cn, cc, ctxs, ha, hn, hcp, hrs⟩ := p
  have he2 : e = .returned (.agg #[.slice ca cn cc, .slice ha hn hcp]) := he
  subst he2
  clear he hfine hpp
  have HS1 := Lib.hid hst
  have HK1 := Lib.hid hk'
  clear hst hk' HS0
  as_aux_lemma =>
    go_wp2_with fail
    refine (rightFwd_any w.heap.size (0 + 400) _ HS1.out (by omega)).mono ?_
    rintro e w2 ⟨v, fs, base, rfl, hrow, hbase, hok, hstr, hlen, hst, hk'⟩
    have HS2 := Lib.hid hst
    have HK2 := Lib.hid (HK1.out.trans hk')
    have HCH : Hid (∀ W, Keeps w.heap.size w2 W → ∀ (k : Fin 5) (base2 : Nat) (v2 : Value) (xs : List (Nat × Bool)), W.ownsRow base2 41 2 v2 xs.length ((xs.map stCell).flatten) → xs.length = 4 → (∀ j, j < 4 → (xs.getD j default).1 = j) → Calls Tryz.prog 10 #[.agg #[.slice ca cn cc, .slice ha hn hcp], v, .string ⟨(lineK k).toArray⟩, .int .i64 0, v2] W (ChainP fs k W)) := fun W hW k base2 v2 xs h1 h2 h3 => by
      have := chain_any W pp (HFP.out W (hk'.trans hW)) base v fs (own_keeps hrow hW hbase) hok hstr hlen k base2 v2 xs h1 h2 h3
      rw [HPP.out] at this
      exact this
    have HCI : Hid (∀ W, Keeps w.heap.size w2 W → Calls Tryz.prog 7 #[.agg #[.slice ca cn cc, .slice ha hn hcp], v] W (CirP fs W)) := fun W hW => by
      have := circles_any W pp (HFP.out W (hk'.trans hW)) base v fs (own_keeps hrow hW hbase) hok hstr hlen
      rw [HPP.out] at this
      exact this
    have HFW : Hid (∀ W, Keeps w.heap.size w2 W → FwRow W base v fs) := fun W hW => own_keeps hrow hW hbase
    have HFL : Hid (fs.length ≤ 7) := hlen
    have HFIN : Hid (∀ W, Keeps w.heap.size w2 W → Below w.heap.size w W ∧ TabAt W) := fun W hW => ⟨HEND.out W (HK2.out.trans hW), HT0.out.keeps (HK2.out.trans hW) HTN.out⟩
    have hA : Below w2.heap.size w2 (w2.alloc (.cells #[.slice ca cn cc, .slice ha hn hcp] 29)) := ext_alloc (Below.refl _ _)
    have X3 : Hid (Blk (w2.alloc (.cells #[.slice ca cn cc, .slice ha hn hcp] 29)) w2.heap.size [.slice ca cn cc, .slice ha hn hcp] 29) := Blk.new _ _ _
    have HS3 := Lib.hid (HS2.out.below hA)
    have HK3 : Hid (Keeps w.heap.size w2 (w2.alloc (.cells #[.slice ca cn cc, .slice ha hn hcp] 29))) := Keeps.of_below hA
    have hS2 : w.heap.size < w2.heap.size := HS2.out.lt
    clear hrow hbase hok hstr hlen hst hk' HS1 HK1 HS2 HK2 HT0 HEND HTN HFP HPP hA
    as_aux_lemma =>
      go_upto_region 3 with (fail)
      generalize (w2.alloc (.cells #[.slice ca cn cc, .slice ha hn hcp] 29)) = w3 at X3 HS3 HK3 ⊢
      have hXS : w2.heap.size ≠ w.heap.size := by omega
      obtain ⟨X, hXX⟩ : ∃ X, X = w2.heap.size := ⟨_, rfl⟩
      have HXX := Lib.hid hXX
      rw [← hXX] at X3 hXS hS2 ⊢
      clear hXX
      have x0 := X3.out.cell 0 rfl
      have x1 := X3.out.cell 1 rfl
      as_aux_lemma =>
        go_wp2_with fail
        refine (HCI.out _ HK3.out).mono ?_
        rintro e w4 ⟨vo, os, rfl, hro, hso, hne, hol, hb⟩
        have X4 := Lib.hid (X3.out.below hb)
        have HS4 := Lib.hid (HS3.out.below hb)
        have HK4 := Lib.hid (HK3.out.ext hb)
        clear hb x0 x1 X3 HS3 HK3
        have HIS := Lib.hid (isSortedS w4 _ vo os.length os hro hso (Nat.le_trans hol (by decide)))
        have HNE := Lib.hid hne
        obtain ⟨oa, oc, rfl⟩ := own_shape hro
        clear hro hso hne hol
        as_aux_lemma =>
          go_wp2_with fail
          refine HIS.out.mono ?_
          rintro e w5 ⟨rfl, q, rfl⟩
          have hb : Below w4.heap.size w4 (w4.drewN q) := ext_drewN (Below.refl _ _)
          have X5 := Lib.hid (X4.out.below hb)
          have HS5 := Lib.hid (HS4.out.below hb)
          have HK5 := Lib.hid (HK4.out.ext hb)
          clear hb X4 HS4 HK4 HIS
          generalize w4.drewN q = w5 at X5 HS5 HK5 ⊢
          have hA : Below w5.heap.size w5 (w5.alloc (.cells #[.string ⟨#[108, 97]⟩, .string ⟨#[108, 98]⟩, .string ⟨#[108, 99]⟩, .string ⟨#[108, 100]⟩, .string ⟨#[108, 101]⟩] 9)) := ext_alloc (Below.refl _ _)
          have X6 := Lib.hid (X5.out.below hA)
          have HS6 := Lib.hid (HS5.out.below hA)
          have HK6 := Lib.hid (HK5.out.ext hA)
          have L6 : Hid (Blk (w5.alloc (.cells #[.string ⟨#[108, 97]⟩, .string ⟨#[108, 98]⟩, .string ⟨#[108, 99]⟩, .string ⟨#[108, 100]⟩, .string ⟨#[108, 101]⟩] 9)) w5.heap.size [.string ⟨#[108, 97]⟩, .string ⟨#[108, 98]⟩, .string ⟨#[108, 99]⟩, .string ⟨#[108, 100]⟩, .string ⟨#[108, 101]⟩] 9) := Blk.new _ _ _
          have HXL : Hid (X < w5.heap.size) := X5.out.lt
          clear hA X5 HS5 HK5
          as_aux_lemma =>
            go_wp2_with ((refine wpList_val rfl (bl_lch0 _ (fun _ => rfl) _ _  ⟨#[108, 97]⟩ ⟨#[108, 98]⟩ ⟨#[108, 99]⟩ ⟨#[108, 100]⟩ ⟨#[108, 101]⟩ rfl) ?_))
            generalize (w5.alloc (.cells #[.string ⟨#[108, 97]⟩, .string ⟨#[108, 98]⟩, .string ⟨#[108, 99]⟩, .string ⟨#[108, 100]⟩, .string ⟨#[108, 101]⟩] 9)) = w6 at X6 HS6 HK6 L6 ⊢
            generalize w5.heap.size = LL at L6 HXL ⊢
            go_loopw [38] (fun it wr => ∃ j : Nat, j ≤ 5 ∧ it = .int .i64 j ∧ Hid (StreamOk wr w.heap.size (429 + 4 * j)) ∧ Hid (Blk wr X [.slice ca cn cc, .slice ha hn hcp] 29) ∧ Hid (Blk wr LL [.string ⟨#[108, 97]⟩, .string ⟨#[108, 98]⟩, .string ⟨#[108, 99]⟩, .string ⟨#[108, 100]⟩, .string ⟨#[108, 101]⟩] 9) ∧ Hid (Keeps w.heap.size w2 wr)) (fun it _ => 5 - (intOf it).toNat)
            case atStart => exact ⟨0, by omega, rfl, HS6, X6, L6, HK6⟩
            case round =>
              clear HS6 X6 L6 HK6
              obtain ⟨j, hj, rfl, HSj, Xj, Lj, HKj⟩ := hrel
              by_cases hlj : j < 5
              case neg =>
                have hjn : ¬ (j : Int) < 5 := by omega
                obtain ⟨_, htt⟩ := HFIN.out wr HKj.out
                as_aux_lemma =>
                  go_wp2_with fail
                  refine (ready_true _ htt).mono ?_
                  rintro e w9 ⟨rfl, hb⟩
                  have HF := Lib.hid (HFIN.out w9 (HKj.out.ext hb)).1
                  clear hb
                  go_wp2_with fail
                  go_ret
                  exact ⟨rfl, HF.out⟩
              have hj5 : (j : Int) < 5 := by omega
              have hj0 : ¬ (j : Int) < 0 := by omega
              have c0 : wr.cell? ⟨LL, j, none⟩ = some (.string ⟨(lineK j).toArray⟩) := Lj.out.cell j (line5_cell j hlj)
              obtain ⟨jb, hjb⟩ : ∃ jb : ByteArray, jb = ⟨(lineK j).toArray⟩ := ⟨_, rfl⟩
              have HJB := Lib.hid hjb
              rw [← hjb] at c0
              have hA : Below wr.heap.size wr (wr.alloc (.cells #[.string ⟨#[108, 97]⟩, .string ⟨#[108, 98]⟩, .string ⟨#[108, 99]⟩, .string ⟨#[108, 100]⟩] 9)) := ext_alloc (Below.refl _ _)
              have X7 := Lib.hid (Xj.out.below hA)
              have HS7 := Lib.hid (HSj.out.below hA)
              have HK7 := Lib.hid (HKj.out.ext hA)
              have L7 := Lib.hid (Lj.out.below hA)
              have M7 : Hid (Blk (wr.alloc (.cells #[.string ⟨#[108, 97]⟩, .string ⟨#[108, 98]⟩, .string ⟨#[108, 99]⟩, .string ⟨#[108, 100]⟩] 9)) wr.heap.size [.string ⟨#[108, 97]⟩, .string ⟨#[108, 98]⟩, .string ⟨#[108, 99]⟩, .string ⟨#[108, 100]⟩] 9) := Blk.new _ _ _
              have hlw : LL < wr.heap.size := Lj.out.lt
              have HLM : Hid (LL < wr.heap.size ∧ X < wr.heap.size) := ⟨Lj.out.lt, Xj.out.lt⟩
              clear hA HSj Xj Lj HKj hjb
              as_aux_lemma =>
                go_wp2_with ((refine wpList_val rfl (bl_lch1 _ (fun _ => rfl) _ _  ⟨#[108, 97]⟩ ⟨#[108, 98]⟩ ⟨#[108, 99]⟩ ⟨#[108, 100]⟩ rfl) ?_))
                clear c0 hlw
                generalize (wr.alloc (.cells #[.string ⟨#[108, 97]⟩, .string ⟨#[108, 98]⟩, .string ⟨#[108, 99]⟩, .string ⟨#[108, 100]⟩] 9)) = w7 at X7 HS7 HK7 L7 M7 ⊢
                generalize wr.heap.size = MM at M7 HLM ⊢
                have O7 : Hid (w7.ownsRow (MM + 1) 41 2 (.slice none 0 0) ([] : List (Nat × Bool)).length ((([] : List (Nat × Bool)).map stCell).flatten)) := World.ownsRow_nil _ _ _ _
                go_loopw [10, 44] (fun vs it wr => ∃ (i : Nat) (xs : List (Nat × Bool)), i ≤ 4 ∧ it = .int .i64 i ∧ xs.length = i ∧ Hid (∀ m, m < i → (xs.getD m default).1 = m) ∧ Hid (wr.ownsRow (MM + 1) 41 2 vs xs.length ((xs.map stCell).flatten)) ∧ Hid (StreamOk wr w.heap.size (429 + 4 * j + i)) ∧ Hid (Blk wr X [.slice ca cn cc, .slice ha hn hcp] 29) ∧ Hid (Blk wr LL [.string ⟨#[108, 97]⟩, .string ⟨#[108, 98]⟩, .string ⟨#[108, 99]⟩, .string ⟨#[108, 100]⟩, .string ⟨#[108, 101]⟩] 9) ∧ Hid (Blk wr MM [.string ⟨#[108, 97]⟩, .string ⟨#[108, 98]⟩, .string ⟨#[108, 99]⟩, .string ⟨#[108, 100]⟩] 9) ∧ Hid (Keeps w.heap.size w2 wr)) (fun _ it _ => 4 - (intOf it).toNat)
                case atStart => exact ⟨0, [], by omega, rfl, rfl, (fun m hm => absurd hm (by omega)), O7, HS7, X7, L7, M7, HK7⟩
                case round =>
                  clear O7 HS7 X7 L7 M7 HK7
                  obtain ⟨i, xs, hi, rfl, hxl, HXI, HO, HSi, Xi, Li, Mi, HKi⟩ := hrel
                  obtain ⟨vs, rfl⟩ : ∃ x : Value, x = u10 := ⟨_, rfl⟩
                  by_cases hli : i < 4
                  case pos =>
                    have hi4 : (i : Int) < 4 := by omega
                    have hi0 : ¬ (i : Int) < 0 := by omega
                    have c0 : wr.cell? ⟨MM, i, none⟩ = some (.string ⟨(lineK i).toArray⟩) := Mi.out.cell i (line4_cell i hli)
                    have hmw : MM < wr.heap.size := Mi.out.lt
                    as_aux_lemma =>
                      go_wp2_with ((refine wpList_val rfl (bl_lch2 _ (fun _ => rfl) _ _  ⟨#[98, 117, 115, 121]⟩ ⟨#[115, 105, 108, 101, 110, 116]⟩ rfl) ?_))
                      clear c0 hmw
                      refine (some_lit w.heap.size (429 + 4 * j + i) [[98, 117, 115, 121], [115, 105, 108, 101, 110, 116]] (fun s => ∃ b : Bool, s = stS b) _ _ _ HSi.out (by omega) rfl rfl (by decide) (by decide) (by intro x hx; simp at hx; rcases hx with hx | hx; { exact ⟨true, hx⟩ }; { exact ⟨false, hx⟩ })).mono ?_
                      rintro e w8 ⟨s, rfl, ⟨b, rfl⟩, hst, hk'⟩
                      have HOM := Lib.hid (show w.heap.size ≠ MM ∧ w.heap.size ≠ LL ∧ w.heap.size < MM + 1 ∧ w2.heap.size < MM + 1 by have h1 := HXL.out; have h2 := HLM.out; have h3 := HXX.out; omega)
                      have HS8 := Lib.hid (hst.mono (k' := 429 + 4 * j + (i + 1)) (by omega))
                      have X8 := Lib.hid (Xi.out.keeps hk' hXS)
                      have L8 := Lib.hid (Li.out.keeps hk' (Ne.symm HOM.out.2.1))
                      have M8 := Lib.hid (Mi.out.keeps hk' (Ne.symm HOM.out.1))
                      have HK8 := Lib.hid (HKi.out.trans hk')
                      have HO8 := Lib.hid (own_keeps HO.out hk' HOM.out.2.2.1)
                      clear hst hk' HSi Xi Li Mi HKi HO
                      have HCL : Hid (stCell (i, b) = [.string ⟨(lineK i).toArray⟩, .string ⟨(stS b).toArray⟩]) := rfl
                      generalize (⟨(lineK i).toArray⟩ : ByteArray) = nb at HCL ⊢
                      generalize (⟨(stS b).toArray⟩ : ByteArray) = sb at HCL ⊢
                      obtain ⟨wn, hwn⟩ : ∃ w', w' = w8.alloc (.cells #[.string nb, .string sb] 41) := ⟨_, rfl⟩
                      have hbn : Below w8.heap.size w8 wn := by rw [hwn]; exact ext_alloc (Below.refl _ _)
                      have HZN : Hid (Blk wn w8.heap.size [.string nb, .string sb] 41) := by rw [hwn]; exact Blk.new _ _ _
                      have HNW : Hid (∀ j u, ([.string nb, .string sb] : List Value)[j]? = some u → wn.cell? ((⟨w8.heap.size, 0, none⟩ : Addr).add j) = some u) := fun j u hj => by
                        rw [show (⟨w8.heap.size, 0, none⟩ : Addr).add j = ⟨w8.heap.size, j, none⟩ by cases j <;> simp [Addr.add]]
                        exact HZN.out.cell j hj
                      have HON : Hid (wn.ownsRow (MM + 1) 41 2 vs xs.length ((xs.map stCell).flatten)) := own_more HO8.out hbn
                      have HSN := Lib.hid (HS8.out.below hbn)
                      have HKN := Lib.hid (HK8.out.trans (Keeps.of_below hbn))
                      have XN := Lib.hid (X8.out.below hbn)
                      have LN := Lib.hid (L8.out.below hbn)
                      have MN := Lib.hid (M8.out.below hbn)
                      have HWN := Lib.hid hwn
                      have HLM2 : Hid (xs.length + 1 ≤ maxLen ∧ (xs.length + 1) * 32 ≤ 140737488355328) := ⟨by unfold maxLen; omega, by omega⟩
                      have hbw : MM + 1 ≤ wn.heap.size := by have := MN.out.lt; omega
                      clear hbn hwn HS8 HK8 HO8 X8 L8 M8
                      as_aux_lemma =>
                        go_upto_region 14 with (first | ((refine wpList_val rfl (bl_lch3 _ (fun _ => rfl) _ _ 53 nb sb rfl rfl) ?_)) | (at_builtin; rw [← HWN.out]; refine wpList_append_own _ rfl (.tmp 48) (.tmp 54) 38 rfl (MM + 1) 41 ip (.agg #[.string ⟨#[]⟩, .string ⟨#[]⟩]) 2 32 Tryz.underlying38 hip hpz0 hpz1 hpz2 rfl (by decide) vs xs.length ((xs.map stCell).flatten) rfl HON.out ⟨w8.heap.size, 0, none⟩ 1 1 [.string nb, .string sb] rfl rfl HNW.out (by intro u hu; simp at hu; rcases hu with rfl | rfl <;> rfl) HLM2.out.1 HLM2.out.2 hbw ?_; intro vn wx hon hgn _))
                        have HOX : Hid (wx.ownsRow (MM + 1) 41 2 vn (xs ++ [(i, b)]).length (((xs ++ [(i, b)]).map stCell).flatten)) := by
                          show World.ownsRow _ _ _ _ _ _ _
                          rw [List.map_append, List.flatten_append, List.length_append]
                          simp only [List.map_cons, List.map_nil, List.flatten_cons, List.flatten_nil, List.append_nil, List.length_cons, List.length_nil]
                          rw [HCL.out]
                          exact hon
                        have HOB : Hid (∀ b, vs.ownBlock = some b → MM + 1 ≤ b) := fun b hb => (HON.out.lt b hb).1
                        have HSX : Hid (StreamOk wx w.heap.size (429 + 4 * j + (i + 1))) := HSN.out.upto ⟨hgn.os, hgn.tape, hgn.output, hgn.size, fun j hj => hgn.block j (by have := HSN.out.lt; omega) (fun e => by have := HOB.out j e.symm; have := HOM.out.2.2.1; omega)⟩
                        have HKX : Hid (Keeps w.heap.size w2 wx) := ⟨hgn.os.trans HKN.out.os, hgn.tape.trans HKN.out.tape, hgn.output.trans HKN.out.output, Nat.le_trans HKN.out.size hgn.size, fun j hj hjS => (hgn.block j (Nat.lt_of_lt_of_le hj HKN.out.size) (fun e => by have := HOB.out j e.symm; have := HOM.out.2.2.2; omega)).trans (HKN.out.block j hj hjS)⟩
                        have XX := Lib.hid (XN.out.grown hgn (fun e => by have := HOB.out X e; have := HLM.out; omega))
                        have LX := Lib.hid (LN.out.grown hgn (fun e => by have := HOB.out LL e; have := HLM.out; omega))
                        have MX := Lib.hid (MN.out.grown hgn (fun e => by have := HOB.out MM e; omega))
                        have HXS : Hid (∀ m, m < i + 1 → ((xs ++ [(i, b)]).getD m default).1 = m) := fun m hm => by
                          rw [List.getD_eq_getElem?_getD, List.getElem?_append]
                          by_cases hmi : m < i
                          · rw [if_pos (by omega), ← List.getD_eq_getElem?_getD]; exact HXI.out m hmi
                          · rw [if_neg (by omega), show m - xs.length = 0 by omega]
                            show i = m
                            omega
                        clear hon hgn HON HSN HKN XN LN MN HWN HNW HZN HCL HOB HXI hbw HLM2 HOM
                        as_aux_lemma =>
                          go_wp2_with fail
                          go_roundw
                          case rel => exact ⟨i + 1, xs ++ [(i, b)], by omega, by go_num, by rw [List.length_append, hxl]; rfl, HXS, HOX, HSX, XX, LX, MX, HKX⟩
                          case measure => simp [intOf]; omega
                  case neg =>
                    obtain rfl : i = 4 := by omega
                    have hin : ¬ ((4 : Nat) : Int) < 4 := by omega
                    have HC9 := Lib.hid (HCH.out wr HKi.out ⟨j, hlj⟩ (MM + 1) vs xs HO.out hxl (fun m hm => HXI.out m hm))
                    have HJB2 : Hid ((⟨(lineK (⟨j, hlj⟩ : Fin 5).val).toArray⟩ : ByteArray) = jb) := HJB.out.symm
                    rw [HJB2.out] at HC9
                    clear HXI HO hin
                    have x0 := Xi.out.cell 0 rfl
                    have x1 := Xi.out.cell 1 rfl
                    as_aux_lemma =>
                      go_wp2_with fail
                      refine HC9.out.mono ?_
                      rintro e w9 ⟨hres, hb⟩
                      have X9 := Lib.hid (Xi.out.below hb)
                      have L9 := Lib.hid (Li.out.below hb)
                      have HS9 : Hid (StreamOk w9 w.heap.size (429 + 4 * (j + 1))) := (HSi.out.below hb).mono (by omega)
                      have HK9 := Lib.hid (HKi.out.ext hb)
                      clear x0 x1 HC9 hb Xi Li Mi HSi HKi
                      rcases hres with ⟨vc, cs, rfl, hch, hrow⟩ | ⟨rfl, y, hway⟩
                      case inr =>
                        have hop : 0 < os.length := List.length_pos_iff.2 (HNE.out y hway)
                        have hop2 : (0 : Int) < os.length := by omega
                        clear hway
                        have hA : Below w9.heap.size w9 (w9.alloc (.cells #[.slice none 0 0] 33)) := ext_alloc (Below.refl _ _)
                        have XA := Lib.hid (X9.out.below hA)
                        have LA := Lib.hid (L9.out.below hA)
                        have HSA := Lib.hid (HS9.out.below hA)
                        have HKA := Lib.hid (HK9.out.ext hA)
                        clear hA X9 L9 HS9 HK9
                        as_aux_lemma =>
                          go_wp2_with fail
                          go_roundw
                          case rel => exact ⟨j + 1, by omega, by go_num, HSA, XA, LA, HKA⟩
                          case measure => simp [intOf]; omega
                      have hcsp := hch.pos
                      have hcl := hch.len
                      have hh0 := hch.head
                      have HPW := Lib.hid hch.once
                      have HLK := Lib.hid hch.link
                      obtain ⟨n, hn⟩ : ∃ n, n = cs.length := ⟨_, rfl⟩
                      rw [← hn] at hrow hcsp hcl
                      obtain ⟨ga, gc, rfl⟩ := own_shape hrow
                      obtain ⟨gg, rfl, hg0, hg1⟩ := own_pos hrow hcsp
                      have hgc : n ≤ gc := by
                        rcases hrow.2 with ⟨e, _⟩ | ⟨g', c', cu, e, _, _, h1, h3, _⟩
                        · cases e
                        · injection e with _ _ e3
                          subst e3
                          exact h1
                      have hcpi : ¬ (n = 0) := by omega
                      have k0 : w9.cell? ⟨gg, 0, none⟩ = some (.string jb) := by
                        rw [chain_cell hrow 0 (by omega), hh0]
                        exact congrArg (fun x => some (Value.string x)) HJB2.out
                      have hA : Below w9.heap.size w9 (w9.alloc (.cells #[.slice (some ⟨gg, 0, none⟩) n gc] 33)) := ext_alloc (Below.refl _ _)
                      have XA := Lib.hid (X9.out.below hA)
                      have LA := Lib.hid (L9.out.below hA)
                      have HSA := Lib.hid (HS9.out.below hA)
                      have HKA := Lib.hid (HK9.out.ext hA)
                      have C1 : Hid (Blk (w9.alloc (.cells #[.slice (some ⟨gg, 0, none⟩) n gc] 33)) w9.heap.size [.slice (some ⟨gg, 0, none⟩) n gc] 33) := Blk.new _ _ _
                      obtain ⟨wr9, hwr9⟩ : ∃ x : Nat, x = wr.heap.size := ⟨_, rfl⟩
                      rw [← hwr9] at hrow
                      have HRA := Lib.hid (own_more hrow hA)
                      have k1 := (hA.cell (p := ⟨gg, 0, none⟩) hg1).trans k0
                      have HNC := Lib.hid hn
                      clear hch hrow hA X9 L9 HS9 HK9 hh0 k0 hg1 hg0 hn hwr9
                      as_aux_lemma =>
                        go_wp2_with fail
                        clear k1
                        generalize (w9.alloc (.cells #[.slice (some ⟨gg, 0, none⟩) n gc] 33)) = w1 at XA LA HSA HKA C1 HRA ⊢
                        generalize w9.heap.size = C at C1 ⊢
                        go_loopw [88] (fun it wr => ∃ i : Nat, i ≤ n ∧ it = .int .i64 i ∧ Hid (StreamOk wr w.heap.size (429 + 4 * (j + 1))) ∧ Hid (Blk wr X [.slice ca cn cc, .slice ha hn hcp] 29) ∧ Hid (Blk wr LL [.string ⟨#[108, 97]⟩, .string ⟨#[108, 98]⟩, .string ⟨#[108, 99]⟩, .string ⟨#[108, 100]⟩, .string ⟨#[108, 101]⟩] 9) ∧ Hid (Blk wr C [.slice (some ⟨gg, 0, none⟩) n gc] 33) ∧ Hid (wr.ownsRow wr9 9 1 (.slice (some ⟨gg, 0, none⟩) n gc) n ((cs.map (fun c => lineK c.val)).map encS)) ∧ Hid (Keeps w.heap.size w2 wr)) (fun it _ => n - (intOf it).toNat)
                        case atStart => exact ⟨0, Nat.zero_le _, rfl, HSA, XA, LA, C1, HRA, HKA⟩
                        case round =>
                          clear XA LA HSA HKA C1 HRA
                          obtain ⟨i, hi, rfl, HSi, Xi, Li, Ci, HRi, HKi⟩ := hrel
                          by_cases hli : i < n
                          case neg =>
                            have hin : ¬ (i : Int) < (n : Int) := by omega
                            as_aux_lemma =>
                              go_wp2_with fail
                              go_roundw
                              case rel => exact ⟨j + 1, by omega, by go_num, HSi, Xi, Li, HKi⟩
                              case measure => simp [intOf]; omega
                          have hin : (i : Int) < (n : Int) := by omega
                          have hic : (i : Int) ≤ (gc : Int) := by omega
                          have hi0 : ¬ (i : Int) < 0 := by omega
                          have hA : Below wr.heap.size wr (wr.alloc (.cells #[.int .i64 i] 3)) := ext_alloc (Below.refl _ _)
                          have XA := Lib.hid (Xi.out.below hA)
                          have LA := Lib.hid (Li.out.below hA)
                          have CA := Lib.hid (Ci.out.below hA)
                          have I1 : Hid (Blk (wr.alloc (.cells #[.int .i64 i] 3)) wr.heap.size [.int .i64 i] 3) := Blk.new _ _ _
                          have HSA := Lib.hid (HSi.out.below hA)
                          have HKA := Lib.hid (HKi.out.ext hA)
                          have HRA := Lib.hid (own_more HRi.out hA)
                          clear hA Xi Li Ci HSi HKi HRi
                          as_aux_lemma =>
                            go_upto_region 22 with (fail)
                            generalize (wr.alloc (.cells #[.int .i64 i] 3)) = wa at XA LA CA I1 HSA HKA HRA ⊢
                            generalize wr.heap.size = I at I1 ⊢
                            have hd : Below wa.heap.size wa wa.drew := ext_drew (Below.refl _ _)
                            have XD := Lib.hid (XA.out.below hd)
                            have LD := Lib.hid (LA.out.below hd)
                            have CD := Lib.hid (CA.out.below hd)
                            have ID := Lib.hid (I1.out.below hd)
                            have HSD := Lib.hid (HSA.out.below hd)
                            have HKD := Lib.hid (HKA.out.ext hd)
                            have HRD := Lib.hid (own_more HRA.out hd)
                            have hcl5 : cs.length ≤ 5 := by have := HNC.out; omega
                            have hics : i < cs.length := by have := HNC.out; omega
                            obtain ⟨xb, hxb⟩ : ∃ xb, xb = lineB (cs.getD i 0) := ⟨_, rfl⟩
                            have HHS : Hid (∀ W, Below wa.drew.heap.size wa.drew W → Calls Tryz.prog 11 #[.slice (some ⟨gg, 0, none⟩) i gc, .string xb] W fun e w' => e = .returned (.bool false) ∧ w' = W) := fun W hW => by
                              rw [hxb]
                              have hr := own_more HRD.out hW
                              exact chain_has (fun j hj => chain_cell hr j hj) HPW.out i hics hcl5
                            have HCE : Hid (∀ W9, Below wa.drew.heap.size wa.drew W9 → W9.cell? ⟨C, 0, none⟩ = some (.slice (some ⟨gg, 0, none⟩) n gc) ∧ W9.cell? ⟨I, 0, none⟩ = some (.int .i64 i) ∧ W9.cell? ⟨gg, i, none⟩ = some (.string xb)) := fun W9 hW => ⟨(CD.out.below hW).cell 0 rfl, (ID.out.below hW).cell 0 rfl, by rw [hxb]; exact chain_cell (own_more HRD.out hW) i hics⟩
                            clear hd XA LA CA I1 HSA HKA HRA
                            by_cases hiz : i = 0
                            case pos =>
                              have HIZ := Lib.hid hiz
                              clear hxb hics hcl5 hiz
                              refine region_seqI (S := fun W9 => Below wa.drew.heap.size wa.drew W9) [(true, 0), (true, 1), (true, 2), (true, 3), (true, 4), (true, 5), (true, 6), (false, 7), (true, 8), (true, 9), (true, 10), (true, 11), (true, 12), (true, 13), (true, 14), (true, 15), (true, 16), (true, 17)] (by kernel_rfl) (by kernel_rfl) rfl (by kernel_rfl) (Below.refl _ _) ?_
                              generalize wa.drew = wd at HCE HHS XD LD CD ID HSD HKD HRD ⊢
                              simp only [seqOps, List.getD_cons_zero, List.getD_cons_succ]
                              refine seqI_take (v := .slice (some ⟨gg, 0, none⟩) n gc) rfl (fun W9 hW => by obtain ⟨m0, m1, m2⟩ := HCE.out W9 hW; clear hW; go_simp) (fun _ _ _ h => h) ?_
                              simp only [Act.put, List.setIfInBounds_toArray, List.set_cons_zero, List.set_cons_succ]
                              refine seqI_take (v := .int .i64 i) rfl (fun W9 hW => by obtain ⟨m0, m1, m2⟩ := HCE.out W9 hW; clear hW; go_simp) (fun _ _ _ h => h) ?_
                              simp only [Act.put, List.setIfInBounds_toArray, List.set_cons_zero, List.set_cons_succ]
                              refine seqI_take (v := .slice (some ⟨gg, 0, none⟩) i gc) rfl (fun W9 hW => by clear hW; go_simp) (fun _ _ _ h => h) ?_
                              simp only [Act.put, List.setIfInBounds_toArray, List.set_cons_zero, List.set_cons_succ]
                              refine seqI_take (v := .slice (some ⟨gg, 0, none⟩) n gc) rfl (fun W9 hW => by obtain ⟨m0, m1, m2⟩ := HCE.out W9 hW; clear hW; go_simp) (fun _ _ _ h => h) ?_
                              simp only [Act.put, List.setIfInBounds_toArray, List.set_cons_zero, List.set_cons_succ]
                              refine seqI_take (v := .int .i64 i) rfl (fun W9 hW => by obtain ⟨m0, m1, m2⟩ := HCE.out W9 hW; clear hW; go_simp) (fun _ _ _ h => h) ?_
                              simp only [Act.put, List.setIfInBounds_toArray, List.set_cons_zero, List.set_cons_succ]
                              refine seqI_take (v := .pointer (some ⟨gg, i, none⟩)) rfl (fun W9 hW => by clear hW; go_simp) (fun _ _ _ h => h) ?_
                              simp only [Act.put, List.setIfInBounds_toArray, List.set_cons_zero, List.set_cons_succ]
                              refine seqI_take (v := .string xb) rfl (fun W9 hW => by obtain ⟨m0, m1, m2⟩ := HCE.out W9 hW; clear hW; go_simp) (fun _ _ _ h => h) ?_
                              simp only [Act.put, List.setIfInBounds_toArray, List.set_cons_zero, List.set_cons_succ]
                              refine seqI_call _ _ rfl (by go_simp) (HHS.out wd (Below.refl _ _)) ?_
                              rintro e wq ⟨rfl, hwq⟩
                              replace hwq := hwq.symm
                              subst hwq
                              refine ⟨_, rfl, Below.refl _ _, ?_⟩
                              simp only [Act.put, List.setIfInBounds_toArray, List.set_cons_zero, List.set_cons_succ]
                              refine seqI_take (v := .bool false) rfl (fun W9 hW => by clear hW; go_simp) (fun _ _ _ h => h) ?_
                              simp only [Act.put, List.setIfInBounds_toArray, List.set_cons_zero, List.set_cons_succ]
                              refine seqI_take (v := .int .i64 i) rfl (fun W9 hW => by obtain ⟨m0, m1, m2⟩ := HCE.out W9 hW; clear hW; go_simp) (fun _ _ _ h => h) ?_
                              simp only [Act.put, List.setIfInBounds_toArray, List.set_cons_zero, List.set_cons_succ]
                              refine seqI_take (v := .bool false) rfl (fun W9 hW => by clear hW; go_simp; exact HIZ.out) (fun _ _ _ h => h) ?_
                              simp only [Act.put, List.setIfInBounds_toArray, List.set_cons_zero, List.set_cons_succ]
                              refine seqI_take (v := .bool false) rfl (fun W9 hW => by clear hW; go_simp) (fun _ _ _ h => h) ?_
                              simp only [Act.put, List.setIfInBounds_toArray, List.set_cons_zero, List.set_cons_succ]
                              refine seqI_skip rfl (fun _ _ _ h => h) ?_
                              simp only [Act.put, List.setIfInBounds_toArray, List.set_cons_zero, List.set_cons_succ]
                              refine seqI_skip rfl (fun _ _ _ h => h) ?_
                              simp only [Act.put, List.setIfInBounds_toArray, List.set_cons_zero, List.set_cons_succ]
                              refine seqI_skip rfl (fun _ _ _ h => h) ?_
                              simp only [Act.put, List.setIfInBounds_toArray, List.set_cons_zero, List.set_cons_succ]
                              refine seqI_skip rfl (fun _ _ _ h => h) ?_
                              simp only [Act.put, List.setIfInBounds_toArray, List.set_cons_zero, List.set_cons_succ]
                              refine seqI_take (v := .bool false) rfl (fun W9 hW => by clear hW; go_simp) (fun _ _ _ h => h) ?_
                              simp only [Act.put, List.setIfInBounds_toArray, List.set_cons_zero, List.set_cons_succ]
                              refine seqI_take (v := .bool false) rfl (fun W9 hW => by clear hW; go_simp) (fun _ _ _ h => h) ?_
                              simp only [Act.put, List.setIfInBounds_toArray, List.set_cons_zero, List.set_cons_succ]
                              refine seqI_nil ?_
                              clear HCE HHS ID
                              as_aux_lemma =>
                                go_wp2_with fail
                                go_roundw
                                case rel => exact ⟨i + 1, by omega, by go_num, HSD, XD, LD, CD, HRD, HKD⟩
                                case measure => simp [intOf]; omega
                            obtain ⟨i', hi'⟩ : ∃ i', i = i' + 1 := ⟨i - 1, by omega⟩
                            have HCF : Hid (∀ W, Below wa.drew.heap.size wa.drew W → Calls Tryz.prog 12 #[v, .func (.func 13) #[] #[.pointer (some ⟨C, 0, none⟩), .pointer (some ⟨I, 0, none⟩)]] W (BoolP true W)) := fun W hW => by
                              have hr := own_more HRD.out hW
                              have hCW := CD.out.below hW
                              have hIW := ID.out.below hW
                              have hgW : gg < W.heap.size := by
                                rcases hr.2 with ⟨e, _⟩ | ⟨g', c', cu, e, _, h2, _⟩
                                · cases e
                                · injection e with e1
                                  injection e1 with e1
                                  injection e1 with e1
                                  rw [e1]
                                  exact (Array.getElem?_eq_some_iff.1 h2).1
                              have hi0 := hIW.cell 0 rfl
                              rw [show (i : Int) = (i' : Int) + 1 by omega] at hi0
                              have := hasFw_any 13 #[.pointer (some ⟨C, 0, none⟩), .pointer (some ⟨I, 0, none⟩)] (enters_of Tryz.func13 (by kernel_rfl) rfl) W base v fs (HFW.out W (HKD.out.ext hW)) HFL.out _ (fwSee_pred C I gg n gc i' W (cs.getD i' 0) (cs.getD (i' + 1) 0) hCW.lt hIW.lt hgW (hCW.cell 0 rfl) hi0 (by omega) (by have := HNC.out; omega) (chain_cell hr i' (by omega)) (chain_cell hr (i' + 1) (by omega)))
                              rw [link_any HLK.out (by omega)] at this
                              exact this
                            have HIZ : Hid (0 < i) := by show 0 < i; omega
                            clear hxb hics hcl5 hiz hi'
                            refine region_seqI (S := fun W9 => Below wa.drew.heap.size wa.drew W9) [(true, 0), (true, 1), (true, 2), (true, 3), (true, 4), (true, 5), (true, 6), (false, 7), (true, 8), (true, 9), (true, 10), (true, 11), (true, 12), (true, 13), (false, 14), (true, 15), (true, 16), (true, 17)] (by kernel_rfl) (by kernel_rfl) rfl (by kernel_rfl) (Below.refl _ _) ?_
                            generalize wa.drew = wd at HCE HHS HCF XD LD CD ID HSD HKD HRD ⊢
                            simp only [seqOps, List.getD_cons_zero, List.getD_cons_succ]
                            refine seqI_take (v := .slice (some ⟨gg, 0, none⟩) n gc) rfl (fun W9 hW => by obtain ⟨m0, m1, m2⟩ := HCE.out W9 hW; clear hW; go_simp) (fun _ _ _ h => h) ?_
                            simp only [Act.put, List.setIfInBounds_toArray, List.set_cons_zero, List.set_cons_succ]
                            refine seqI_take (v := .int .i64 i) rfl (fun W9 hW => by obtain ⟨m0, m1, m2⟩ := HCE.out W9 hW; clear hW; go_simp) (fun _ _ _ h => h) ?_
                            simp only [Act.put, List.setIfInBounds_toArray, List.set_cons_zero, List.set_cons_succ]
                            refine seqI_take (v := .slice (some ⟨gg, 0, none⟩) i gc) rfl (fun W9 hW => by clear hW; go_simp) (fun _ _ _ h => h) ?_
                            simp only [Act.put, List.setIfInBounds_toArray, List.set_cons_zero, List.set_cons_succ]
                            refine seqI_take (v := .slice (some ⟨gg, 0, none⟩) n gc) rfl (fun W9 hW => by obtain ⟨m0, m1, m2⟩ := HCE.out W9 hW; clear hW; go_simp) (fun _ _ _ h => h) ?_
                            simp only [Act.put, List.setIfInBounds_toArray, List.set_cons_zero, List.set_cons_succ]
                            refine seqI_take (v := .int .i64 i) rfl (fun W9 hW => by obtain ⟨m0, m1, m2⟩ := HCE.out W9 hW; clear hW; go_simp) (fun _ _ _ h => h) ?_
                            simp only [Act.put, List.setIfInBounds_toArray, List.set_cons_zero, List.set_cons_succ]
                            refine seqI_take (v := .pointer (some ⟨gg, i, none⟩)) rfl (fun W9 hW => by clear hW; go_simp) (fun _ _ _ h => h) ?_
                            simp only [Act.put, List.setIfInBounds_toArray, List.set_cons_zero, List.set_cons_succ]
                            refine seqI_take (v := .string xb) rfl (fun W9 hW => by obtain ⟨m0, m1, m2⟩ := HCE.out W9 hW; clear hW; go_simp) (fun _ _ _ h => h) ?_
                            simp only [Act.put, List.setIfInBounds_toArray, List.set_cons_zero, List.set_cons_succ]
                            refine seqI_call _ _ rfl (by go_simp) (HHS.out wd (Below.refl _ _)) ?_
                            rintro e wq ⟨rfl, hwq⟩
                            replace hwq := hwq.symm
                            subst hwq
                            refine ⟨_, rfl, Below.refl _ _, ?_⟩
                            simp only [Act.put, List.setIfInBounds_toArray, List.set_cons_zero, List.set_cons_succ]
                            refine seqI_take (v := .bool false) rfl (fun W9 hW => by clear hW; go_simp) (fun _ _ _ h => h) ?_
                            simp only [Act.put, List.setIfInBounds_toArray, List.set_cons_zero, List.set_cons_succ]
                            refine seqI_take (v := .int .i64 i) rfl (fun W9 hW => by obtain ⟨m0, m1, m2⟩ := HCE.out W9 hW; clear hW; go_simp) (fun _ _ _ h => h) ?_
                            simp only [Act.put, List.setIfInBounds_toArray, List.set_cons_zero, List.set_cons_succ]
                            refine seqI_take (v := .bool true) rfl (fun W9 hW => by clear hW; go_simp; exact HIZ.out) (fun _ _ _ h => h) ?_
                            simp only [Act.put, List.setIfInBounds_toArray, List.set_cons_zero, List.set_cons_succ]
                            refine seqI_take (v := .bool true) rfl (fun W9 hW => by clear hW; go_simp) (fun _ _ _ h => h) ?_
                            simp only [Act.put, List.setIfInBounds_toArray, List.set_cons_zero, List.set_cons_succ]
                            refine seqI_take (v := v) rfl (fun W9 hW => by clear hW; go_simp) (fun _ _ _ h => h) ?_
                            simp only [Act.put, List.setIfInBounds_toArray, List.set_cons_zero, List.set_cons_succ]
                            refine seqI_take (v := .func (.func 13) #[] #[.pointer (some ⟨C, 0, none⟩), .pointer (some ⟨I, 0, none⟩)]) rfl (fun W9 hW => by clear hW; go_simp) (fun _ _ _ h => h) ?_
                            simp only [Act.put, List.setIfInBounds_toArray, List.set_cons_zero, List.set_cons_succ]
                            refine seqI_call _ _ rfl (by go_simp) (HCF.out wd (Below.refl _ _)) ?_
                            rintro e wx ⟨rfl, hb⟩
                            refine ⟨_, rfl, hb, ?_⟩
                            simp only [Act.put, List.setIfInBounds_toArray, List.set_cons_zero, List.set_cons_succ]
                            refine seqI_take (v := .bool false) rfl (fun W9 hW => by clear hW; go_simp) (fun _ _ _ h => h) ?_
                            simp only [Act.put, List.setIfInBounds_toArray, List.set_cons_zero, List.set_cons_succ]
                            refine seqI_take (v := .bool false) rfl (fun W9 hW => by clear hW; go_simp) (fun _ _ _ h => h) ?_
                            simp only [Act.put, List.setIfInBounds_toArray, List.set_cons_zero, List.set_cons_succ]
                            refine seqI_take (v := .bool false) rfl (fun W9 hW => by clear hW; go_simp) (fun _ _ _ h => h) ?_
                            simp only [Act.put, List.setIfInBounds_toArray, List.set_cons_zero, List.set_cons_succ]
                            refine seqI_nil ?_
                            have XE := Lib.hid (XD.out.below hb)
                            have LE := Lib.hid (LD.out.below hb)
                            have CE := Lib.hid (CD.out.below hb)
                            have HSE := Lib.hid (HSD.out.below hb)
                            have HKE := Lib.hid (HKD.out.ext hb)
                            have HRE := Lib.hid (own_more HRD.out hb)
                            clear hb XD LD CD HSD HKD HRD
                            clear HCE HHS ID HCF
                            as_aux_lemma =>
                              go_wp2_with fail
                              go_roundw
                              case rel => exact ⟨i + 1, by omega, by go_num, HSE, XE, LE, CE, HRE, HKE⟩
                              case measure => simp [intOf]; omega
end Go.Proofs.YtkdadbpajhdelaaGreatDoor

namespace Go.Proofs.YtkdadbpajhdelaaGreatDoor
open Go.ChangeShapes Go.WideShapes Go.ChangeAt Go.RowKit
set_option linter.unusedVariables false

theorem own : ownKnob Tryz.prog.godebug = none := by kernel_rfl
theorem laidOut : laidOutB Tryz.prog = true := by kernel_rfl

/-- The listed variables. -/
abbrev laid3 : List (String × DataW Unit) := [("math/bits.deBruijn32tab", Rows.laid_math_bits_deBruijn32tab), ("unicode/utf8.acceptRanges", Rows.laid_unicode_utf8_acceptRanges), ("unicode/utf8.first", Rows.laid_unicode_utf8_first)]

theorem gTab : Tryz.prog.globalNamed "math/bits.deBruijn32tab" = some 1 := by kernel_rfl
theorem tTab : (Tryz.prog.globals[1]?).map (·.type) = some 258 := by kernel_rfl
theorem cByte : Tryz.prog.cellsOf 5 = 1 := by kernel_rfl

theorem tab_of_laid {W : World} (h : laidMetH Tryz.prog laid3 W) : TabAt W := by
  rw [MakeChecks.laidMetH_plain _ _ _ (by kernel_rfl)] at h
  obtain ⟨g, t, cs, fuel, p, hg, ht, hv, hd⟩ := Lib.laidMet.reads h (List.mem_cons_self ..)
  obtain rfl := Option.some.inj (gTab.symm.trans hg)
  obtain rfl := Option.some.inj (tTab.symm.trans ht)
  obtain ⟨xs, m, rfl, hx, hlen, hn, hel⟩ := DataW.trod_array Tryz.underlying258 hd
  have hxs : xs.map (·.1) = tabL.map (fun z => (DataW.lit (.int .u8 z) : DataW Unit)) := by
    have := congrArg Prod.fst hx
    simp only [Rows.laid_math_bits_deBruijn32tab, DataW.agg.injEq] at this
    exact this.symm
  have key : ∀ i, i < 32 → W.cell? ⟨1, i, none⟩ = some (.int .u8 (tabL.getD i 0)) := by
    intro i hi
    have h1 := hel i hi
    obtain ⟨b, hb⟩ : ∃ b, xs[i]? = some b := ⟨xs[i]'(by omega), List.getElem?_eq_getElem (by omega)⟩
    rw [hb, cByte] at h1
    obtain ⟨z, hcz, hbz, _⟩ := DataW.trod_int Tryz.underlying5 h1
    have h2 : cs[i]? = some (.int .u8 z) := by
      have := congrArg (·[0]?) hcz
      simpa [List.getElem?_take, List.getElem?_drop] using this
    have h3 : (xs.map (·.1))[i]? = some (DataW.lit (.int .u8 z) : DataW Unit) := by simp [hb, hbz]
    rw [hxs] at h3
    simp only [List.getElem?_map, Option.map_eq_some_iff, DataW.lit.injEq, Lit.int.injEq, true_and] at h3
    obtain ⟨z', hz', rfl⟩ := h3
    rw [World.var?_cell hg hv i, h2]
    simp [List.getD_eq_getElem?_getD, hz']
  refine ⟨?_, key⟩
  have := key 0 (by omega)
  rcases Nat.lt_or_ge 1 W.heap.size with h | h
  · exact h
  · simp [World.cell?, Array.getElem?_eq_none h] at this
end Go.Proofs.YtkdadbpajhdelaaGreatDoor
