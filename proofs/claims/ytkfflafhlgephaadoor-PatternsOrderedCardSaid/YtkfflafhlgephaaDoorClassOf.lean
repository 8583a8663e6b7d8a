/- What is proved here: what account.classOf and account.price answer at a tariff that is right. Condition: the tariff lies in memory as stated. -/
import Derived.Test.YtkfflafhlgephaaDoorTariff
import Derived.Deep.RegionWith
import Derived.StillTailTactics
namespace Go.Proofs.YtkfflafhlgephaaDoor
open Go.RowKit
set_option linter.unusedVariables false

/-- The classes are in order, each before the next. -/
def Sorted (cs : List Cls) : Prop := ∀ i, 0 < i → i < cs.length → leS (cs.getD i noCls).pre (cs.getD (i - 1) noCls).pre = false

theorem Sorted.lt {cs : List Cls} (h : Sorted cs) : ∀ (i d : Nat), i + (d + 1) < cs.length → Op.bytesLess (cs.getD i noCls).pre (cs.getD (i + (d + 1)) noCls).pre = true
  | i, 0, hi => by have := h (i + 1) (by omega) hi; exact less_of_leS this
  | i, d + 1, hi => by
    have h1 := Sorted.lt h i d (by omega)
    have h2 := less_of_leS (h (i + (d + 1) + 1) (by omega) (by omega))
    exact less_trans h1 h2

theorem Sorted.lt' {cs : List Cls} (h : Sorted cs) {i j : Nat} (hij : i < j) (hj : j < cs.length) : Op.bytesLess (cs.getD i noCls).pre (cs.getD j noCls).pre = true := by
  have := h.lt i (j - i - 1) (by omega)
  rwa [show i + (j - i - 1 + 1) = j by omega] at this

def cmpAt (cs : List Cls) (t : List UInt8) (i : Nat) : Int := Lib.compareBytes (cs.getD i noCls).pre t

theorem cmpAt_mono {cs : List Cls} (h : Sorted cs) {t : List UInt8} {i j : Nat} (hij : i ≤ j) (hj : j < cs.length) (hc : cmpAt cs t j < 0) : cmpAt cs t i < 0 := by
  rcases Nat.lt_or_eq_of_le hij with h' | rfl
  · unfold cmpAt at hc ⊢
    rw [cmp_neg] at hc ⊢
    exact less_trans (h.lt' h' hj) hc
  · exact hc

def findPre (cs : List Cls) (t : List UInt8) : Option Cls := cs.find? (fun c => c.pre == t)

theorem find_hit {cs : List Cls} (h : Sorted cs) {t : List UInt8} {i : Nat} (hi : i < cs.length) (hc : cmpAt cs t i = 0) : findPre cs t = some (cs.getD i noCls) := by
  unfold cmpAt at hc
  rw [cmp_zero] at hc
  unfold findPre
  rw [List.find?_eq_some_iff_getElem]
  have e : cs.getD i noCls = cs[i] := by simp [List.getD_eq_getElem?_getD, List.getElem?_eq_getElem hi]
  refine ⟨by simpa using hc, i, hi, e.symm, fun j hj => ?_⟩
  have e2 : cs.getD j noCls = cs[j] := by simp [List.getD_eq_getElem?_getD, List.getElem?_eq_getElem (Nat.lt_trans hj hi)]
  have := h.lt' hj hi
  rw [hc, e2] at this
  simp only [Bool.not_eq_true', beq_eq_false_iff_ne]
  intro e3
  rw [e3, less_irrefl] at this
  cases this

theorem find_miss {cs : List Cls} (h : Sorted cs) {t : List UInt8} {i : Nat} (hi : i ≤ cs.length) (h1 : ∀ m, m < i → cmpAt cs t m < 0) (h2 : ∀ m, i ≤ m → m < cs.length → ¬ cmpAt cs t m < 0) (h3 : i < cs.length → cmpAt cs t i ≠ 0) : findPre cs t = none := by
  unfold findPre
  rw [List.find?_eq_none]
  intro c hc hp
  obtain ⟨j, hj, rfl⟩ := List.getElem_of_mem hc
  have e : cs.getD j noCls = cs[j] := by simp [List.getD_eq_getElem?_getD, List.getElem?_eq_getElem hj]
  have hp' : cs[j].pre = t := by simpa using hp
  have hz : cmpAt cs t j = 0 := by unfold cmpAt; rw [cmp_zero, e]; exact hp'
  by_cases hji : j < i
  · have := h1 j hji; omega
  · by_cases hje : j = i
    · subst hje; exact h3 hj hz
    · have hlt : i < j := by omega
      have := h2 i (Nat.le_refl _) (by omega)
      apply this
      unfold cmpAt
      rw [cmp_neg]
      have hl := h.lt' hlt hj
      rw [e, hp'] at hl
      exact hl

theorem cls1_any (p n t : List UInt8) (a b c d : Int) (w : World) :
    Calls Tryd.prog 101 #[.agg #[.string ⟨p.toArray⟩, .string ⟨n.toArray⟩, .int .i64 a, .int .i64 b, .int .i64 c, .int .i64 d], .string ⟨t.toArray⟩] w fun e w' => e = .returned (.int .i64 (Lib.compareBytes p t)) ∧ Below w.heap.size w w' := by
  have hcon := fun w => Tryd.strings_Compare ⟨p.toArray⟩ ⟨t.toArray⟩ w
  change ∀ w, Calls _ _ _ w fun e w' => e = .returned (.int .i64 (Lib.compareBytes p t)) ∧ w' = w at hcon
  generalize Lib.compareBytes p t = r at hcon ⊢
  go_enter Tryd.func101, Tryd.ntmps101
  go_wp2_with (go_at_call 80; refine (hcon _).mono ?_; rintro e w' ⟨rfl, rfl⟩)
  go_ret
  exact ⟨rfl, (by (try show Below _ _ _); repeat (with_reducible first | exact Below.refl _ _ | assumption | exact Hid.out (by assumption) | refine ext_alloc ?_ | refine ext_drewN ?_ | refine ext_drew ?_ | refine ext_setCell ?_ (Nat.le_refl _) | refine ext_setCell ?_ (Nat.le_succ _) | refine ext_trans ?_ (by assumption) | (refine ext_setCell ?_ (by simp)) | (refine ext_setCell ?_ (by simp at *; omega))))⟩

/-- What the search comes to. -/
def Found (cs : List Cls) (t : List UInt8) (n : Nat) (w : World) (e : Ending) (w' : World) : Prop :=
  Below w.heap.size w w' ∧ ((∃ i, i < n ∧ e = .returned (.tuple #[.int .i64 (i : Nat), .bool true]) ∧ findPre cs t = some (cs.getD i noCls)) ∨ ∃ i : Int, e = .returned (.tuple #[.int .i64 i, .bool false]) ∧ findPre cs t = none)

set_option maxHeartbeats 1000000 in
theorem search_any (w : World) (a : Option Addr) (n cap : Nat) (cs : List Cls) (t : List UInt8) (hr : ClsRow w a n cs) (ho : Sorted cs) :
    Calls Tryd.prog 100 #[.slice a n cap, .string ⟨t.toArray⟩, .func (.func 101) #[] #[]] w (Found cs t n w) := by
  obtain ⟨hn, hn2, hr⟩ := hr
  have Hn := Lib.hid hn
  have Hr := Lib.hid hr
  have Ho := Lib.hid ho
  clear hn hr ho
  go_enter Tryd.func100, Tryd.ntmps100
  go_wp2_with fail
  go_loopw [9, 10] (fun s9 s10 wr => ∃ i j : Nat, i ≤ j ∧ j ≤ n ∧ s9 = .int .i64 i ∧ s10 = .int .i64 j ∧ Hid (Below w.heap.size w wr) ∧ Hid (∀ m, m < i → cmpAt cs t m < 0) ∧ Hid (∀ m, j ≤ m → m < n → 0 ≤ cmpAt cs t m)) (fun s9 s10 _ => (intOf s10).toNat - (intOf s9).toNat)
  case atStart => exact ⟨0, n, Nat.zero_le _, Nat.le_refl _, rfl, rfl, Below.refl _ _, fun m hm => absurd hm (by omega), fun m h1 h2 => absurd h1 (by omega)⟩
  case round =>
    obtain ⟨i, j, hij, hjn, rfl, rfl, HB, HL, HU⟩ := hrel
    by_cases hlt : i < j
    · rcases Hr.out with h0 | ⟨b, off, rfl, hb, hc⟩
      · omega
      obtain ⟨c0, c1, c2, c3, c4, c5⟩ := cls_cells (w := wr) (fun q hq => (HB.out.cell (p := ⟨b, off + ((i + j) / 2) * 6 + q, none⟩) hb).trans (hc ((i + j) / 2) (by omega) q hq))
      have hcmp : Hid (cmpAt cs t ((i + j) / 2) = Lib.compareBytes (cs.getD ((i + j) / 2) noCls).pre t) := rfl
      clear hc Hr
      generalize cs.getD ((i + j) / 2) noCls = cl at c0 c1 c2 c3 c4 c5 hcmp
      go_wp2_with fail
      refine (cls1_any _ _ _ _ _ _ _ _).mono ?_
      rintro e w1 ⟨rfl, hB1⟩
      generalize Lib.compareBytes cl.pre t = r at hcmp
      by_cases hr0 : r < 0
      · go_wp2_with fail
        go_roundw
        case rel => exact ⟨(i + j) / 2 + 1, j, by omega, hjn, by go_num, rfl, ext_trans HB.out hB1, fun m hm => cmpAt_mono Ho.out (j := (i + j) / 2) (by omega) (by rw [← Hn.out]; omega) (by rw [hcmp.out]; exact hr0), HU⟩
        case measure => simp [intOf]; omega
      · go_wp2_with fail
        go_roundw
        case rel => exact ⟨i, (i + j) / 2, by omega, by omega, rfl, by go_num, ext_trans HB.out hB1, HL, fun m h1 h2 => Int.not_lt.1 (fun hm => absurd (show r < 0 by rw [← hcmp.out]; exact cmpAt_mono Ho.out h1 (by rw [← Hn.out]; exact h2) hm) (by omega))⟩
        case measure => simp [intOf]; omega
    · obtain rfl : i = j := by omega
      by_cases hin : i < n
      · rcases Hr.out with h0 | ⟨b, off, rfl, hb, hc⟩
        · omega
        obtain ⟨c0, c1, c2, c3, c4, c5⟩ := cls_cells (w := wr) (fun q hq => (HB.out.cell (p := ⟨b, off + i * 6 + q, none⟩) hb).trans (hc i hin q hq))
        have hcmp : Hid (cmpAt cs t i = Lib.compareBytes (cs.getD i noCls).pre t) := rfl
        have hin2 : (i : Int) < (n : Int) := by omega
        clear hc Hr
        generalize hcl : cs.getD i noCls = cl at c0 c1 c2 c3 c4 c5 hcmp
        have Hcl := Lib.hid hcl
        clear hcl
        go_wp2_with fail
        refine (cls1_any _ _ _ _ _ _ _ _).mono ?_
        rintro e w1 ⟨rfl, hB1⟩
        generalize Lib.compareBytes cl.pre t = r at hcmp
        by_cases hr0 : r = 0
        · subst hr0
          go_wp2_with fail
          go_ret2
          exact ⟨ext_trans HB.out hB1, Or.inl ⟨i, hin, rfl, find_hit Ho.out (by rw [← Hn.out]; exact hin) hcmp.out⟩⟩
        · have hr1 : (r == 0) = false := by simpa using hr0
          go_wp2_with fail
          go_ret2
          exact ⟨ext_trans HB.out hB1, Or.inr ⟨_, rfl, find_miss Ho.out (by rw [← Hn.out]; omega) HL.out (by rw [← Hn.out]; exact fun m h1 h2 => Int.not_lt.2 (HU.out m h1 h2)) (fun _ => by rw [hcmp.out]; exact hr0)⟩⟩
      · have hin2 : ¬ (i : Int) < (n : Int) := by omega
        go_wp2_with fail
        go_ret2
        exact ⟨HB.out, Or.inr ⟨_, rfl, find_miss Ho.out (by rw [← Hn.out]; omega) HL.out (by rw [← Hn.out]; exact fun m h1 h2 => Int.not_lt.2 (HU.out m h1 h2)) (fun h => absurd h (by rw [← Hn.out]; omega))⟩⟩

def FoundP (cs : List Cls) (t : List UInt8) (n : Nat) (i : Int) (f : Bool) : Prop := (f = true → ∃ m : Nat, m < n ∧ i = m ∧ findPre cs t = some (cs.getD m noCls)) ∧ (f = false → findPre cs t = none)
def Found2 (cs : List Cls) (t : List UInt8) (n : Nat) (w : World) (e : Ending) (w' : World) : Prop :=
  ∃ (i : Int) (f : Bool), e = .returned (.tuple #[.int .i64 i, .bool f]) ∧ Below w.heap.size w w' ∧ FoundP cs t n i f

theorem search_str (w : World) (a : Option Addr) (n cap : Nat) (cs : List Cls) (t : List UInt8) (s : ByteArray) (hs : s.data.toList = t) (hr : ClsRow w a n cs) (ho : Sorted cs) :
    Calls Tryd.prog 100 #[.slice a n cap, .string s, .func (.func 101) #[] #[]] w (Found2 cs t n w) := by
  have h := search_any w a n cap cs t hr ho
  have e : (⟨t.toArray⟩ : ByteArray) = s := by rw [← hs]
  rw [e] at h
  refine h.mono ?_
  rintro e w' ⟨hb, ⟨i, hi, rfl, hf⟩ | ⟨i, rfl, hf⟩⟩
  · exact ⟨_, _, rfl, hb, (fun _ => ⟨i, hi, rfl, hf⟩), (fun h => by cases h)⟩
  · exact ⟨_, _, rfl, hb, (fun h => by cases h), fun _ => hf⟩

theorem extract_take (l : List UInt8) (k : Nat) : ((⟨l.toArray⟩ : ByteArray).extract 0 k).data.toList = l.take k := by
  simp [ByteArray.extract, ByteArray.copySlice]

def priceI (c : Cls) (talk : Int) : Int := if talk = 0 then 0 else c.setup + c.rate * ((max 0 (talk - c.first) + c.step - 1) / c.step)

set_option maxHeartbeats 1000000 in
theorem price_any (c : Cls) (talk : Int) (w : World) (g : GoodCls c) (h0 : 0 ≤ talk) (h1 : talk ≤ 86400000) :
    Calls Tryd.prog 75 #[.agg #[.string ⟨c.pre.toArray⟩, .string ⟨c.name.toArray⟩, .int .i64 c.setup, .int .i64 c.first, .int .i64 c.step, .int .i64 c.rate], .int .i64 talk] w fun e w' => e = .returned (.int .i64 (priceI c talk)) ∧ Below w.heap.size w w' := by
  obtain ⟨g1, g2, g3, g4, g5, g6, g7, g8, g9, g10, g11, g12⟩ := g
  clear g1 g3
  have hd : Hid (priceI c talk = if talk = 0 then 0 else c.setup + c.rate * ((max 0 (talk - c.first) + c.step - 1) / c.step)) := rfl
  by_cases ht : talk = 0
  · subst ht
    go_enter Tryd.func75, Tryd.ntmps75
    go_wp2_with fail
    go_ret
    exact ⟨by rw [hd.out]; rfl, (by (try show Below _ _ _); repeat (with_reducible first | exact Below.refl _ _ | assumption | exact Hid.out (by assumption) | refine ext_alloc ?_ | refine ext_drewN ?_ | refine ext_drew ?_ | refine ext_setCell ?_ (Nat.le_refl _) | refine ext_setCell ?_ (Nat.le_succ _) | refine ext_trans ?_ (by assumption) | (refine ext_setCell ?_ (by simp)) | (refine ext_setCell ?_ (by simp at *; omega))))⟩
  · have ht2 : (talk == 0) = false := by simpa using ht
    go_enter Tryd.func75, Tryd.ntmps75
    go_wp2_with fail
    generalize hv : max 0 (talk - c.first) = v at hd
    have v0 : 0 ≤ v := by omega
    have v1 : v ≤ 86400000 := by omega
    clear hv
    have q0 : 0 ≤ (v + c.step - 1) / c.step := Int.ediv_nonneg (by omega) (by omega)
    have q1 : (v + c.step - 1) / c.step ≤ 172800000 := Int.ediv_le_of_le_mul (by omega) (by have : (172800000 : Int) * 1 ≤ 172800000 * c.step := Int.mul_le_mul_of_nonneg_left g11 (by omega); omega)
    have m0 : 0 ≤ c.rate * ((v + c.step - 1) / c.step) := Int.mul_nonneg g7 q0
    have m1 : c.rate * ((v + c.step - 1) / c.step) ≤ 1000000 * 172800000 := Int.mul_le_mul g8 q1 q0 (by omega)
    have w1 : IntKind.i64.wrap (v + c.step) = v + c.step := IntWalk.i64_in _ (by omega)
    have w2 : IntKind.i64.wrap (v + c.step - 1) = v + c.step - 1 := IntWalk.i64_in _ (by omega)
    have w3 : IntKind.i64.wrap (c.rate * ((v + c.step - 1) / c.step)) = c.rate * ((v + c.step - 1) / c.step) := IntWalk.i64_in _ (by omega)
    have w4 : IntKind.i64.wrap (c.setup + c.rate * ((v + c.step - 1) / c.step)) = c.setup + c.rate * ((v + c.step - 1) / c.step) := IntWalk.i64_in _ (by omega)
    have w5 : (v + c.step - 1).tdiv c.step = (v + c.step - 1) / c.step := Int.tdiv_eq_ediv_of_nonneg (by omega)
    have w6 : IntKind.i64.wrap ((v + c.step - 1) / c.step) = (v + c.step - 1) / c.step := IntWalk.i64_in _ (by omega)
    have w7 : ¬ c.step = 0 := by omega
    clear q0 q1 m0 m1
    go_quiet (fail)
    go_wp2_with fail
    go_ret
    exact ⟨by rw [hd.out, if_neg ht]; rfl, (by (try show Below _ _ _); repeat (with_reducible first | exact Below.refl _ _ | assumption | exact Hid.out (by assumption) | refine ext_alloc ?_ | refine ext_drewN ?_ | refine ext_drew ?_ | refine ext_setCell ?_ (Nat.le_refl _) | refine ext_setCell ?_ (Nat.le_succ _) | refine ext_trans ?_ (by assumption) | (refine ext_setCell ?_ (by simp)) | (refine ext_setCell ?_ (by simp at *; omega))))⟩

/-- The class of a number: that of the longest of its beginnings of at most k bytes. -/
def clsTo (cs : List Cls) (l : List UInt8) : Nat → Option Cls
  | 0 => findPre cs (l.take 0)
  | k + 1 => (findPre cs (l.take (k + 1))).or (clsTo cs l k)

def clsOf (cs : List Cls) (l : List UInt8) : Option Cls := clsTo cs l l.length

def ClsPost (cs : List Cls) (l : List UInt8) (w : World) (e : Ending) (w' : World) : Prop :=
  Below w.heap.size w w' ∧ ((∃ c ∈ cs, e = .returned (.tuple #[.agg #[.string ⟨c.pre.toArray⟩, .string ⟨c.name.toArray⟩, .int .i64 c.setup, .int .i64 c.first, .int .i64 c.step, .int .i64 c.rate], .bool true]) ∧ clsOf cs l = some c) ∨
    (e = .returned (.tuple #[.agg #[.string ⟨#[]⟩, .string ⟨#[]⟩, .int .i64 0, .int .i64 0, .int .i64 0, .int .i64 0], .bool false]) ∧ clsOf cs l = none))

set_option maxRecDepth 100000 in
set_option maxHeartbeats 1000000 in
theorem classOf_any (w : World) (a : Option Addr) (n cap : Nat) (cs : List Cls) (v1 v2 : Value) (l : List UInt8) (hr : ClsRow w a n cs) (ho : Sorted cs) (hl : l.length ≤ 1000) :
    Calls Tryd.prog 74 #[.agg #[.slice a n cap, v1, v2], .string ⟨l.toArray⟩] w (ClsPost cs l w) := by
  have Hr := Lib.hid hr
  have Ho := Lib.hid ho
  clear hr ho
  go_enter Tryd.func74, Tryd.ntmps74
  go_wp2_with fail
  go_loopw [6] (fun s6 wr => ∃ k : Nat, k ≤ l.length + 1 ∧ s6 = .int .i64 ((k : Int) - 1) ∧ Hid (Below ((w.alloc (.cells #[.slice a n cap, v1, v2] 90)).alloc (.cells #[.string ⟨#[]⟩, .string ⟨#[]⟩, .int .i64 0, .int .i64 0, .int .i64 0, .int .i64 0] 87)).heap.size ((w.alloc (.cells #[.slice a n cap, v1, v2] 90)).alloc (.cells #[.string ⟨#[]⟩, .string ⟨#[]⟩, .int .i64 0, .int .i64 0, .int .i64 0, .int .i64 0] 87)) wr) ∧ Hid (clsOf cs l = match k with | 0 => none | m + 1 => clsTo cs l m)) (fun s6 _ => ((intOf s6) + 1).toNat)
  case atStart => exact ⟨l.length + 1, Nat.le_refl _, by go_num, Below.refl _ _, rfl⟩
  case round =>
    obtain ⟨k, hk, rfl, HB, HC⟩ := hrel
    have hbw : Below w.heap.size w wr := ext_trans (ext_alloc (ext_alloc (Below.refl _ _))) HB.out
    have x0 : wr.cell? ⟨w.heap.size, 0, none⟩ = some (.slice a n cap) := (HB.out.cell (p := ⟨w.heap.size, 0, none⟩) (by simp; omega)).trans (by simp)
    cases k with
    | zero =>
      have r0 : wr.cell? ⟨w.heap.size + 1, 0, none⟩ = some (.string ⟨#[]⟩) := (HB.out.cell (p := ⟨w.heap.size + 1, 0, none⟩) (by simp)).trans (by simp)
      have r1 : wr.cell? ⟨w.heap.size + 1, 1, none⟩ = some (.string ⟨#[]⟩) := (HB.out.cell (p := ⟨w.heap.size + 1, 1, none⟩) (by simp)).trans (by simp)
      have r2 : wr.cell? ⟨w.heap.size + 1, 2, none⟩ = some (.int .i64 0) := (HB.out.cell (p := ⟨w.heap.size + 1, 2, none⟩) (by simp)).trans (by simp)
      have r3 : wr.cell? ⟨w.heap.size + 1, 3, none⟩ = some (.int .i64 0) := (HB.out.cell (p := ⟨w.heap.size + 1, 3, none⟩) (by simp)).trans (by simp)
      have r4 : wr.cell? ⟨w.heap.size + 1, 4, none⟩ = some (.int .i64 0) := (HB.out.cell (p := ⟨w.heap.size + 1, 4, none⟩) (by simp)).trans (by simp)
      have r5 : wr.cell? ⟨w.heap.size + 1, 5, none⟩ = some (.int .i64 0) := (HB.out.cell (p := ⟨w.heap.size + 1, 5, none⟩) (by simp)).trans (by simp)
      have rf : ∀ j, wr.frozen? ⟨w.heap.size + 1, j, none⟩ = false := fun j => (HB.out.frozen (p := ⟨w.heap.size + 1, j, none⟩) (by simp)).trans (by simp)
      go_wp2_with fail
      refine bodyPost_ret (v := .tuple #[.agg #[.string ⟨#[]⟩, .string ⟨#[]⟩, .int .i64 0, .int .i64 0, .int .i64 0, .int .i64 0], .bool false]) (by simp [results, Tryd.results74, go_sem, r0, r1, r2, r3, r4, r5]) rfl ⟨?_, Or.inr ⟨rfl, HC.out⟩⟩
      exact (by (try show Below _ _ _); repeat (with_reducible first | exact Below.refl _ _ | assumption | exact Hid.out (by assumption) | refine ext_alloc ?_ | refine ext_drewN ?_ | refine ext_drew ?_ | refine ext_setCell ?_ (Nat.le_refl _) | refine ext_setCell ?_ (Nat.le_succ _) | refine ext_trans ?_ (by assumption) | (refine ext_setCell ?_ (by simp)) | (refine ext_setCell ?_ (by simp at *; omega))))
    | succ k =>
      have hk1 : ((k + 1 : Nat) : Int) - 1 = (k : Int) := by omega
      rw [hk1]
      clear hk1
      have kl : (k : Int) ≤ (l.length : Int) := by omega
      have kl2 : k ≤ l.length := by omega
      go_wp2_with fail
      go_region_with (go_at_call 100; refine (search_str _ a n cap cs (l.take k) _ (extract_take l k) ?hx Ho.out).mono ?_; exact Hr.out.below (ext_drew hbw); rintro e w1 ⟨i, f, rfl, hB1, hfp⟩)
      have hw1 : Below w.heap.size w w1 := ext_trans (ext_drew hbw) hB1
      have HB1 : Hid (Below ((w.alloc (.cells #[.slice a n cap, v1, v2] 90)).alloc (.cells #[.string ⟨#[]⟩, .string ⟨#[]⟩, .int .i64 0, .int .i64 0, .int .i64 0, .int .i64 0] 87)).heap.size ((w.alloc (.cells #[.slice a n cap, v1, v2] 90)).alloc (.cells #[.string ⟨#[]⟩, .string ⟨#[]⟩, .int .i64 0, .int .i64 0, .int .i64 0, .int .i64 0] 87)) w1) := ext_trans (ext_drew HB.out) hB1
      cases f with
      | false =>
        have hnone := hfp.2 rfl
        go_wp2_with fail
        go_roundw
        case rel => exact ⟨k, by omega, rfl, HB1, by
          show clsOf cs l = _
          rw [HC.out]
          cases k with
          | zero => exact hnone
          | succ m => show (findPre cs (l.take (m + 1))).or (clsTo cs l m) = _; rw [hnone]; rfl⟩
        case measure => simp [intOf]
      | true =>
        obtain ⟨m, hm, rfl, hsome⟩ := hfp.1 rfl
        have hrow := Hr.out.below hw1
        obtain ⟨hn1, hn2, hrow⟩ := hrow
        have hmem : Hid (cs.getD m noCls ∈ cs) := by
          show cs.getD m noCls ∈ cs
          have hm2 : m < cs.length := by omega
          rw [List.getD_eq_getElem?_getD, List.getElem?_eq_getElem hm2]; exact List.getElem_mem hm2
        have hfin : Hid (clsOf cs l = some (cs.getD m noCls)) := by
          show clsOf cs l = _
          rw [HC.out]
          cases k with
          | zero => exact hsome
          | succ q => show (findPre cs (l.take (q + 1))).or (clsTo cs l q) = _; rw [hsome]; rfl
        have Hn1 := Lib.hid hn1
        clear hn1 hsome hfp
        rcases hrow with h0 | ⟨b, off, rfl, hb, hc⟩
        · omega
        obtain ⟨c0, c1, c2, c3, c4, c5⟩ := cls_cells (hc m hm)
        clear hc
        have x1 : w1.cell? ⟨w.heap.size, 0, none⟩ = some (.slice (some ⟨b, off, none⟩) n cap) := (HB1.out.cell (p := ⟨w.heap.size, 0, none⟩) (by simp; omega)).trans (by simp)
        have r0 : w1.cell? ⟨w.heap.size + 1, 0, none⟩ = some (.string ⟨#[]⟩) := (HB1.out.cell (p := ⟨w.heap.size + 1, 0, none⟩) (by simp)).trans (by simp)
        have r1 : w1.cell? ⟨w.heap.size + 1, 1, none⟩ = some (.string ⟨#[]⟩) := (HB1.out.cell (p := ⟨w.heap.size + 1, 1, none⟩) (by simp)).trans (by simp)
        have r2 : w1.cell? ⟨w.heap.size + 1, 2, none⟩ = some (.int .i64 0) := (HB1.out.cell (p := ⟨w.heap.size + 1, 2, none⟩) (by simp)).trans (by simp)
        have r3 : w1.cell? ⟨w.heap.size + 1, 3, none⟩ = some (.int .i64 0) := (HB1.out.cell (p := ⟨w.heap.size + 1, 3, none⟩) (by simp)).trans (by simp)
        have r4 : w1.cell? ⟨w.heap.size + 1, 4, none⟩ = some (.int .i64 0) := (HB1.out.cell (p := ⟨w.heap.size + 1, 4, none⟩) (by simp)).trans (by simp)
        have r5 : w1.cell? ⟨w.heap.size + 1, 5, none⟩ = some (.int .i64 0) := (HB1.out.cell (p := ⟨w.heap.size + 1, 5, none⟩) (by simp)).trans (by simp)
        have rf : ∀ j, w1.frozen? ⟨w.heap.size + 1, j, none⟩ = false := fun j => (HB1.out.frozen (p := ⟨w.heap.size + 1, j, none⟩) (by simp)).trans (by simp)
        have Hb1 := Lib.hid HB1.out
        generalize cs.getD m noCls = cl at c0 c1 c2 c3 c4 c5 hmem hfin
        go_wp2_with fail
        refine bodyPost_ret (v := .tuple #[.agg #[.string ⟨cl.pre.toArray⟩, .string ⟨cl.name.toArray⟩, .int .i64 cl.setup, .int .i64 cl.first, .int .i64 cl.step, .int .i64 cl.rate], .bool true]) (by simp [results, Tryd.results74, go_sem, r0, r1, r2, r3, r4, r5]) rfl ⟨?_, Or.inl ⟨cl, hmem.out, rfl, hfin.out⟩⟩
        exact (by (try show Below _ _ _); repeat (with_reducible first | exact Below.refl _ _ | assumption | exact Hid.out (by assumption) | refine ext_alloc ?_ | refine ext_drewN ?_ | refine ext_drew ?_ | refine ext_setCell ?_ (Nat.le_refl _) | refine ext_setCell ?_ (Nat.le_succ _) | refine ext_trans ?_ (by assumption) | (refine ext_setCell ?_ (by simp)) | (refine ext_setCell ?_ (by simp at *; omega))))
end Go.Proofs.YtkfflafhlgephaaDoor
