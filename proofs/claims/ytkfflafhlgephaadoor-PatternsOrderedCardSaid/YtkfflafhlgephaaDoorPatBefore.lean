/- What is proved here: what rank, before and Before of package dialplan answer. Condition: the patterns lie in memory as stated. -/
import Derived.Test.YtkfflafhlgephaaDoorPatMatch
import Derived.IntWalk
set_option linter.unusedVariables false
set_option linter.unusedSimpArgs false
namespace Go.Proofs.YtkfflafhlgephaaDoor
open Go.RowKit

/-- The signs of a set, in order, up to the k-th. -/
def rkTo (m k : Nat) : List UInt8 := ((List.range k).filter (fun i => m.testBit i)).map signN
theorem rkTo_succ (m k : Nat) : rkTo m (k + 1) = rkTo m k ++ if m.testBit k then [signN k] else [] := by
  unfold rkTo
  rw [List.range_succ, List.filter_append, List.map_append]
  cases h : m.testBit k <;> simp [h]
theorem rkTo_len (m k : Nat) : (rkTo m k).length ≤ k := by
  unfold rkTo
  rw [List.length_map]
  exact Nat.le_trans (List.length_filter_le _ _) (by simp)
/-- What rank answers: a number, and a string. -/
def Pat.key (p : Pat) (i : Nat) : Int × List UInt8 :=
  if i < p.sets.length then ((rkTo (p.sets.getD i 0) 12).length, rkTo (p.sets.getD i 0) 12)
  else if i = p.sets.length ∧ p.tail = 46 then (100, []) else if i = p.sets.length ∧ p.tail = 33 then (102, []) else (101, [])

theorem u16_shift (m i : Nat) (hm : m < 4096) (hi : i < 12) : bits BinOp.and IntKind.u16 ((m : Int) / 2 ^ i) 1 = if m.testBit i then 1 else 0 := by
  have h1 := u16_and (m / 2 ^ i) 0 (Nat.lt_of_le_of_lt (Nat.div_le_self _ _) hm) (by omega)
  have e : (m / 2 ^ i).testBit 0 = m.testBit i := by rw [Nat.testBit_div_two_pow]; simp
  rw [e] at h1
  have e2 : ((m / 2 ^ i : Nat) : Int) = (m : Int) / 2 ^ i := by simp
  rw [e2] at h1
  simpa using h1

theorem sign_app (x : List UInt8) (k : Nat) (hk : k < 12) : ((⟨x.toArray⟩ : ByteArray) ++ (⟨#[35, 42, 48, 49, 50, 51, 52, 53, 54, 55, 56, 57]⟩ : ByteArray).extract k (k + 1)) = ⟨(x ++ [signN k]).toArray⟩ := by
  have h : ∀ k, k < 12 → (signsL.drop k).take 1 = [signN k] := by decide
  have e : ((⟨#[35, 42, 48, 49, 50, 51, 52, 53, 54, 55, 56, 57]⟩ : ByteArray).extract k (k + 1)) = ⟨#[signN k]⟩ := by
    rw [Lib.extract_eq, show k + 1 - k = 1 by omega]
    exact congrArg (fun l : List UInt8 => (⟨l.toArray⟩ : ByteArray)) (h k hk)
  rw [e]
  apply ByteArray.ext
  simp
def RankPost (x : Int × List UInt8) (w : World) (e : Ending) (w' : World) : Prop := e = .returned (.tuple #[.int .i64 x.1, .string ⟨x.2.toArray⟩]) ∧ Below w.heap.size w w'
set_option maxRecDepth 100000 in
set_option maxHeartbeats 2000000 in
theorem rank_any (w : World) (a : Option Addr) (n cap : Nat) (p : Pat) (h : PatAt w a n p) (hp : PatOk p) (i : Nat) (hi : i ≤ 1000) :
    Calls Tryd.prog 77 #[patVal a n cap p, .int .i64 i] w (RankPost (p.key i) w) := by
  have hn : n ≤ 4 := by have := hp.len; have := h.len; omega
  unfold patVal
  by_cases hlt : i < n
  · have hip : i < p.sets.length := by rw [← h.len]; exact hlt
    have e1 : p.key i = (((rkTo (p.sets.getD i 0) 12).length : Int), rkTo (p.sets.getD i 0) 12) := by unfold Pat.key; rw [if_pos hip]
    have hm := (hp.sets _ (show p.sets.getD i 0 ∈ p.sets by rw [List.getD_eq_getElem?_getD, List.getElem?_eq_getElem hip]; exact List.getElem_mem hip)).2
    rcases h.row with h0 | ⟨g, rfl, hg, hc⟩
    · omega
    have c0 := hc i hlt
    rw [e1]
    clear e1 hc h
    generalize p.sets.getD i 0 = m at c0 hm ⊢
    go_enter Tryd.func77, Tryd.ntmps77
    go_wp2_with fail
    go_loop [7, 20] (fun sv it => ∃ k : Nat, k ≤ 12 ∧ it = .int .i64 k ∧ sv = .string ⟨(rkTo m k).toArray⟩) (fun _ it => 12 - (intOf it).toNat)
    case atStart => exact ⟨0, Nat.zero_le _, rfl, rfl⟩
    case round =>
      obtain ⟨k, hk, rfl, rfl⟩ := hrel
      have hrl := rkTo_len m k
      by_cases hlk : k < 12
      · have hsh := u16_shift m k hm hlk
        have HSU := Lib.hid (rkTo_succ m k)
        cases htb : m.testBit k
        · rw [htb] at hsh HSU
          simp only [Bool.false_eq_true, if_false, List.append_nil] at hsh HSU
          clear htb
          go_wp2_with fail
          go_round
          case rel => exact ⟨k + 1, by omega, by go_num, by rw [HSU.out]⟩
          case measure => simp [intOf]; omega
        · rw [htb, if_pos rfl] at hsh HSU
          clear htb
          go_wp2_with fail
          go_round
          case rel => exact ⟨k + 1, by omega, by go_num, by rw [HSU.out, sign_app _ k hlk]⟩
          case measure => simp [intOf]; omega
      · obtain rfl : k = 12 := by omega
        go_wp2_with fail
        go_ret2
        refine ⟨?_, (by (try show Below _ _ _); repeat (with_reducible first | exact Below.refl _ _ | assumption | exact Hid.out (by assumption) | refine ext_alloc ?_ | refine ext_drewN ?_ | refine ext_drew ?_ | refine ext_setCell ?_ (Nat.le_refl _) | refine ext_setCell ?_ (Nat.le_succ _) | refine ext_trans ?_ (by assumption) | (refine ext_setCell ?_ (by simp)) | (refine ext_setCell ?_ (by simp at *; omega))))⟩
        simp [ByteArray.size]
  · have hlt2 : ¬ i < p.sets.length := by rw [← h.len]; exact hlt
    have hni : ¬ (i : Int) < n := by omega
    have e1 : p.key i = if i = n ∧ p.tail = 46 then (100, []) else if i = n ∧ p.tail = 33 then (102, []) else (101, []) := by unfold Pat.key; rw [if_neg hlt2, ← h.len]
    rw [e1]
    clear e1 hlt2 h
    by_cases hin : i = n
    · subst hin
      rcases hp.tail with ht | ht | ht
      all_goals
        rw [ht]
        clear hp ht
        go_enter Tryd.func77, Tryd.ntmps77
        go_wp2_with fail
        go_ret2
        exact ⟨rfl, (by (try show Below _ _ _); repeat (with_reducible first | exact Below.refl _ _ | assumption | exact Hid.out (by assumption) | refine ext_alloc ?_ | refine ext_drewN ?_ | refine ext_drew ?_ | refine ext_setCell ?_ (Nat.le_refl _) | refine ext_setCell ?_ (Nat.le_succ _) | refine ext_trans ?_ (by assumption) | (refine ext_setCell ?_ (by simp)) | (refine ext_setCell ?_ (by simp at *; omega))))⟩
    · have hie : ((i : Int) == n) = false := by simp; omega
      rw [if_neg (fun h => hin h.1), if_neg (fun h => hin h.1)]
      clear hp hin
      go_enter Tryd.func77, Tryd.ntmps77
      go_wp2_with fail
      go_ret2
      exact ⟨rfl, (by (try show Below _ _ _); repeat (with_reducible first | exact Below.refl _ _ | assumption | exact Hid.out (by assumption) | refine ext_alloc ?_ | refine ext_drewN ?_ | refine ext_drew ?_ | refine ext_setCell ?_ (Nat.le_refl _) | refine ext_setCell ?_ (Nat.le_succ _) | refine ext_trans ?_ (by assumption) | (refine ext_setCell ?_ (by simp)) | (refine ext_setCell ?_ (by simp at *; omega))))⟩

def cmpI (a b : Int) : Int := if a < b then -1 else if b < a then 1 else 0
def orI (a b : Int) : Int := if a = 0 then b else a
theorem compare_any (a b : Int) (w : World) : Calls Tryd.prog 79 #[.int .i64 a, .int .i64 b] w fun e w' => e = .returned (.int .i64 (cmpI a b)) ∧ w = w' := by
  unfold cmpI
  by_cases h1 : a < b
  · rw [if_pos h1]
    go_enter Tryd.func79, Tryd.ntmps79
    go_wp2
    go_ret
    exact ⟨rfl, rfl⟩
  · rw [if_neg h1]
    by_cases h2 : b < a
    · rw [if_pos h2]
      have h3 : decide (a < b) = false := decide_eq_false h1
      go_enter Tryd.func79, Tryd.ntmps79
      go_wp2
      go_ret
      exact ⟨rfl, rfl⟩
    · rw [if_neg h2]
      have h3 : decide (a < b) = false := decide_eq_false h1
      have h4 : decide (b < a) = false := decide_eq_false h2
      go_enter Tryd.func79, Tryd.ntmps79
      go_wp2
      go_ret
      exact ⟨rfl, rfl⟩

def OrPost (x : Int) (w : World) (e : Ending) (w' : World) : Prop := e = .returned (.int .i64 x) ∧ w = w'
theorem or_two (a b : Int) (g : Nat) (w : World) (h0 : w.cell? ⟨g, 0, none⟩ = some (.int .i64 a)) (h1 : w.cell? ⟨g, 1, none⟩ = some (.int .i64 b)) : Calls Tryd.prog 78 #[.slice (some ⟨g, 0, none⟩) 2 2] w (OrPost (orI a b) w) := by
  unfold orI
  by_cases ha : a = 0
  · subst ha
    rw [if_pos rfl]
    by_cases hb : b = 0
    · subst hb
      go_enter Tryd.func78, Tryd.ntmps78
      go_wp2_with fail
      refine wp_loop_rounds 3 ?_
      rw [rounds_succ]
      go_wp2_with fail
      rw [rounds_succ]
      go_wp2_with fail
      rw [rounds_succ]
      go_wp2_with fail
      go_ret
      exact ⟨rfl, rfl⟩
    · have hb2 : (b != 0) = true := by simpa using hb
      go_enter Tryd.func78, Tryd.ntmps78
      go_wp2_with fail
      refine wp_loop_rounds 3 ?_
      rw [rounds_succ]
      go_wp2_with fail
      rw [rounds_succ]
      go_wp2_with fail
      go_ret
      exact ⟨rfl, rfl⟩
  · rw [if_neg ha]
    have ha2 : (a != 0) = true := by simpa using ha
    go_enter Tryd.func78, Tryd.ntmps78
    go_wp2_with fail
    refine wp_loop_rounds 3 ?_
    rw [rounds_succ]
    go_wp2_with fail
    go_ret
    exact ⟨rfl, rfl⟩

/-! ### The order of two patterns of a stream -/
def keyCmp (x y : Int × List UInt8) : Int := orI (cmpI x.1 y.1) (Lib.compareBytes x.2 y.2)
def keyN (n : Nat) : Int × List UInt8 := if n < 12 then ((rkTo (elM n) 12).length, rkTo (elM n) 12) else if n = 12 then (100, []) else if n = 14 then (102, []) else (101, [])
theorem key_order : ∀ x, x < 15 → ∀ y, y < 15 → keyCmp (keyN x) (keyN y) = if x < y then -1 else if y < x then 1 else 0 := by decide +kernel
theorem key_els {e : Els} (he : ElsOk e) (i : Nat) : e.pat.key i = keyN (e.rk i) ∧ e.rk i < 15 := by
  have h0 := he.tl0
  have h1 := he.tl1
  unfold Pat.key Els.rk
  have hl : e.pat.sets.length = e.els.length := by simp [Els.pat]
  rw [hl]
  by_cases hi : i < e.els.length
  · rw [if_pos hi, if_pos hi]
    have hx := he.each (e.els.getD i 0) (by rw [List.getD_eq_getElem?_getD, List.getElem?_eq_getElem hi]; exact List.getElem_mem hi)
    have hg : e.pat.sets.getD i 0 = elM (e.els.getD i 0) := by simp [Els.pat, List.getD_eq_getElem?_getD, List.getElem?_eq_getElem hi]
    rw [hg]
    exact ⟨by unfold keyN; rw [if_pos hx], by omega⟩
  · rw [if_neg hi, if_neg hi]
    by_cases he : i = e.els.length
    · have ht : e.pat.tail = tlB e.tl := rfl
      rw [if_pos he, ht]
      have hc : e.tl = 12 ∨ e.tl = 13 ∨ e.tl = 14 := by omega
      rcases hc with hc | hc | hc <;> rw [hc] <;> simp [tlB, keyN, he]
    · rw [if_neg he, if_neg (fun h => he h.1), if_neg (fun h => he h.1)]
      exact ⟨by simp [keyN], by omega⟩

def BefPost (x : Int) (w : World) (e : Ending) (w' : World) : Prop := e = .returned (.int .i64 x) ∧ Below w.heap.size w w'
set_option maxRecDepth 100000 in
set_option maxHeartbeats 2000000 in
theorem before_any (w : World) (x y : Els) (hx : ElsOk x) (hy : ElsOk y) (a : Option Addr) (n cap : Nat) (a2 : Option Addr) (n2 cap2 : Nat) (h : PatAt w a n x.pat) (h2 : PatAt w a2 n2 y.pat) :
    Calls Tryd.prog 40 #[patVal a n cap x.pat, patVal a2 n2 cap2 y.pat] w (BefPost (befI x y) w) := by
  have e1 : n = x.els.length := by have := h.len; simpa [Els.pat] using this
  have e2 : n2 = y.els.length := by have := h2.len; simpa [Els.pat] using this
  have hn : n ≤ 4 := by have := hx.len; omega
  have hn2 : n2 ≤ 4 := by have := hy.len; omega
  have HX := Lib.hid hx
  have HY := Lib.hid hy
  have HP := Lib.hid h
  have HP2 := Lib.hid h2
  have HBF : Hid (befI x y = lexI x.rk y.rk (max n n2 + 1) 0) := by show _ = _; rw [e1, e2]; rfl
  clear hx hy h h2 e1 e2
  unfold patVal
  go_enter Tryd.func40, Tryd.ntmps40
  go_wp2_with fail
  go_loopw [5] (fun it wr => ∃ k : Nat, k ≤ max n n2 + 1 ∧ it = .int .i64 k ∧ Hid (befI x y = lexI x.rk y.rk (max n n2 + 1 - k) k) ∧ Hid (Below ((w.alloc (boxP a n cap x.pat.tail)).alloc (boxP a2 n2 cap2 y.pat.tail)).heap.size ((w.alloc (boxP a n cap x.pat.tail)).alloc (boxP a2 n2 cap2 y.pat.tail)) wr)) (fun it _ => max n n2 + 1 - (intOf it).toNat)
  case atStart => exact ⟨0, Nat.zero_le _, rfl, HBF, Below.refl _ _⟩
  case round =>
    obtain ⟨k, hk, rfl, HL, HB⟩ := hrel
    have c0 := (HB.out.cell (p := ⟨w.heap.size, 0, none⟩) (by simp; omega)).trans (show _ = some (.slice a n cap) by unfold boxP; go_simp)
    have c1 := (HB.out.cell (p := ⟨w.heap.size, 1, none⟩) (by simp; omega)).trans (show _ = some (.int .u8 x.pat.tail) by unfold boxP; go_simp)
    have d0 := (HB.out.cell (p := ⟨w.heap.size + 1, 0, none⟩) (by simp)).trans (show _ = some (.slice a2 n2 cap2) by unfold boxP; go_simp)
    have d1 := (HB.out.cell (p := ⟨w.heap.size + 1, 1, none⟩) (by simp)).trans (show _ = some (.int .u8 y.pat.tail) by unfold boxP; go_simp)
    have HBW : Hid (Below w.heap.size w wr) := ext_trans (ext_alloc (ext_alloc (Below.refl _ _))) HB.out
    by_cases hlt : k ≤ max n n2
    · obtain ⟨kx, kx15⟩ := key_els HX.out k
      obtain ⟨ky, ky15⟩ := key_els HY.out k
      have HKO := Lib.hid (key_order _ kx15 _ ky15)
      have HLX : Hid (befI x y = if x.rk k < y.rk k then -1 else if y.rk k < x.rk k then 1 else lexI x.rk y.rk (max n n2 + 1 - (k + 1)) (k + 1)) := by
        show _ = _
        rw [HL.out, show max n n2 + 1 - k = (max n n2 + 1 - (k + 1)) + 1 by omega]
        rfl
      have HKX := Lib.hid kx
      have HKY := Lib.hid ky
      have hle : (k : Int) ≤ max (n : Int) n2 := by omega
      clear kx ky
      go_wp2_with fail
      refine (rank_any _ a n cap x.pat (HP.out.below HBW.out) (Els.ok HX.out) k (by omega)).mono ?_
      rintro e w1 ⟨rfl, hb1⟩
      have HB1 := Lib.hid (HB.out.trans (hb1.mono HB.out.size))
      have HBW1 := Lib.hid (ext_trans HBW.out hb1)
      clear hb1 c0 c1 d0 d1
      have d0 := (HB1.out.cell (p := ⟨w.heap.size + 1, 0, none⟩) (by simp)).trans (show _ = some (.slice a2 n2 cap2) by unfold boxP; go_simp)
      have d1 := (HB1.out.cell (p := ⟨w.heap.size + 1, 1, none⟩) (by simp)).trans (show _ = some (.int .u8 y.pat.tail) by unfold boxP; go_simp)
      rw [HKX.out]
      generalize keyN (x.rk k) = X at HKO ⊢
      obtain ⟨x1, x2⟩ := X
      go_wp2_with fail
      refine (rank_any _ a2 n2 cap2 y.pat (HP2.out.below HBW1.out) (Els.ok HY.out) k (by omega)).mono ?_
      rintro e w2 ⟨rfl, hb2⟩
      have HB2 := Lib.hid (HB1.out.trans (hb2.mono HB1.out.size))
      have HBW2 := Lib.hid (ext_trans HBW1.out hb2)
      clear hb2 d0 d1
      rw [HKY.out]
      generalize keyN (y.rk k) = Y at HKO ⊢
      obtain ⟨y1, y2⟩ := Y
      have HSC : Hid (∀ w : World, Calls Tryd.prog 80 #[.string ⟨x2.toArray⟩, .string ⟨y2.toArray⟩] w fun e w' => e = .returned (.int .i64 (Lib.compareBytes x2 y2)) ∧ w = w') := fun w => (Tryd.strings_Compare ⟨x2.toArray⟩ ⟨y2.toArray⟩ w).mono (fun e w' h => ⟨h.1, h.2.symm⟩)
      go_wp2_with (first | (go_at_call 79; refine (compare_any _ _ _).mono ?_; rintro e w' ⟨rfl, rfl⟩) | (go_at_call 80; refine (HSC.out _).mono ?_; rintro e w' ⟨rfl, rfl⟩))
      have HK2 : Hid (orI (cmpI x1 y1) (Lib.compareBytes x2 y2) = if x.rk k < y.rk k then -1 else if y.rk k < x.rk k then 1 else 0) := HKO.out
      clear HKO HSC
      generalize cmpI x1 y1 = u1 at HK2 ⊢
      generalize Lib.compareBytes x2 y2 = u2 at HK2 ⊢
      have HB3 : Hid (Below ((w.alloc (boxP a n cap x.pat.tail)).alloc (boxP a2 n2 cap2 y.pat.tail)).heap.size ((w.alloc (boxP a n cap x.pat.tail)).alloc (boxP a2 n2 cap2 y.pat.tail)) (w2.alloc (.cells #[.int .i64 u1, .int .i64 u2] 3))) := ext_alloc HB2.out
      have HBW3 : Hid (Below w.heap.size w (w2.alloc (.cells #[.int .i64 u1, .int .i64 u2] 3))) := ext_alloc HBW2.out
      refine (or_two u1 u2 _ _ (by go_simp) (by go_simp)).mono ?_
      rintro e w' ⟨rfl, rfl⟩
      rw [HK2.out]
      generalize w2.alloc (.cells #[.int .i64 u1, .int .i64 u2] 3) = w3 at HB3 HBW3 ⊢
      by_cases q1 : x.rk k < y.rk k
      · have HF : Hid (befI x y = -1) := by show _ = _; rw [HLX.out, if_pos q1]
        rw [if_pos q1]
        clear q1
        go_wp2_with fail
        go_ret
        exact ⟨by rw [HF.out]; rfl, HBW3.out⟩
      · rw [if_neg q1]
        by_cases q2 : y.rk k < x.rk k
        · have HF : Hid (befI x y = 1) := by show _ = _; rw [HLX.out, if_neg q1, if_pos q2]
          rw [if_pos q2]
          clear q1 q2
          go_wp2_with fail
          go_ret
          exact ⟨by rw [HF.out]; rfl, HBW3.out⟩
        · have HF : Hid (befI x y = lexI x.rk y.rk (max n n2 + 1 - (k + 1)) (k + 1)) := by show _ = _; rw [HLX.out, if_neg q1, if_neg q2]
          rw [if_neg q2]
          clear q1 q2
          go_wp2_with fail
          go_roundw
          case rel => exact ⟨k + 1, by omega, by go_num, HF, HB3⟩
          case measure => simp [intOf]; omega
    · have hle : ¬ (k : Int) ≤ max (n : Int) n2 := by omega
      have HF : Hid (befI x y = 0) := by
        show _ = _
        rw [HL.out, show max n n2 + 1 - k = 0 by omega]
        rfl
      clear hlt
      go_wp2_with fail
      go_ret
      exact ⟨by rw [HF.out]; rfl, HBW.out⟩

def BeforePost (x : Int) (w : World) (e : Ending) (w' : World) : Prop := e = .returned (.tuple #[.int .i64 x, .int .i64 0]) ∧ Below w.heap.size w w'
set_option maxRecDepth 100000 in
set_option maxHeartbeats 2000000 in
theorem Before_any (w : World) (x y : Els) (hx : ElsOk x) (hy : ElsOk y) (s t : ByteArray) (hs : s.data.toList = x.str) (ht : t.data.toList = y.str) : Calls Tryd.prog 16 #[.string s, .string t] w (BeforePost (befI x y) w) := by
  have HX := Lib.hid hx
  have HY := Lib.hid hy
  have HS := Lib.hid hs
  have HT := Lib.hid ht
  clear hx hy hs ht
  go_enter Tryd.func16, Tryd.ntmps16
  go_wp2_with fail
  refine (read_any _ x HX.out s HS.out).mono ?_
  rintro e1 w1 ⟨a, n, cap, rfl, hp, hb1⟩
  have HP := Lib.hid hp
  have HB1 := Lib.hid hb1
  clear hp hb1
  unfold patVal
  go_wp2_with fail
  refine (read_any _ y HY.out t HT.out).mono ?_
  rintro e1 w2 ⟨a2, n2, cap2, rfl, hp2, hb2⟩
  have HP2 := Lib.hid hp2
  have HB2 := Lib.hid (ext_trans (ext_alloc (Below.refl _ w1)) hb2)
  have c0 := (hb2.cell (p := ⟨w1.heap.size, 0, none⟩) (by simp)).trans (show _ = some (.slice a n cap) by go_simp)
  have c1 := (hb2.cell (p := ⟨w1.heap.size, 1, none⟩) (by simp)).trans (show _ = some (.int .u8 x.pat.tail) by go_simp)
  have z2 : w1.heap.size < w2.heap.size := by have := hb2.size; simp at this; omega
  clear hp2 hb2
  unfold patVal
  go_wp2_with fail
  refine (before_any _ x y HX.out HY.out a n cap a2 n2 cap2 ((HP.out.below HB2.out).below (ext_alloc (Below.refl _ _))) (HP2.out.below (ext_alloc (Below.refl _ _)))).mono ?_
  rintro e1 w3 ⟨rfl, hb3⟩
  have HB3 := Lib.hid (ext_trans (ext_trans HB1.out HB2.out) (ext_trans (ext_alloc (Below.refl _ w2)) hb3))
  clear hb3
  go_wp2_with fail
  go_ret2
  exact ⟨rfl, HB3.out⟩
end Go.Proofs.YtkfflafhlgephaaDoor
