/- What is proved here: packets as bytes: put, get, CheckPacket, Write, ReadPacket. Condition: what is handed in lies in memory as stated. -/
import Derived.Test.YtlllckclfpdhgaaDoorSounds
import Derived.Test.YtlllckclfpdhgaaDoorPacketMath
import Derived.Laws.AppendOwnNone
import Derived.Deep.Onto
import Derived.Deep.RegionHeld3
namespace Go.Proofs.YtlllckclfpdhgaaDoor
open Go.RowKit
set_option linter.unusedVariables false
set_option linter.unusedSimpArgs false

def PutPost (base : Nat) (xs : List Int) (n many : Nat) (num : Int) (w : World) (e : Ending) (w' : World) : Prop :=
  ∃ v', e = .returned v' ∧ w'.ownsRow base 5 1 v' (n + many) ((xs ++ beI many num).map (Value.int .u8)) ∧ Below base w w'

set_option maxRecDepth 100000 in
set_option maxHeartbeats 1000000 in
theorem put_any (w : World) (base : Nat) (v : Value) (n many : Nat) (xs : List Int) (num : Int) (ho : w.ownsRow base 5 1 v n (xs.map (Value.int .u8))) (hb : base ≤ w.heap.size) (h0 : 0 ≤ num) (h1 : num ≤ 4294967295) (hm : many ≤ 4) (hn : n ≤ 1000) :
    Calls Tryd.prog 49 #[v, .int .i64 num, .int .i64 many] w (PutPost base xs n many num w) := by
  obtain ⟨i0, hi, hz0, hz1, hz2⟩ := info_parts Tryd.infoByte
  have HO := Lib.hid ho
  clear ho
  go_enter Tryd.func49, Tryd.ntmps49
  go_wp2_with fail
  go_loopw [0, 7] (fun v i wr => ∃ k : Nat, k ≤ many ∧ i = .int .i64 ((many : Int) - 1 - k) ∧ Hid (wr.ownsRow base 5 1 v (n + k) ((xs ++ (beI many num).take k).map (Value.int .u8))) ∧ Hid (Below base w wr)) (fun _ i _ => (intOf i + 1).toNat)
  case atStart => exact ⟨0, Nat.zero_le _, by go_num, by simpa using HO, Below.refl _ _⟩
  case round =>
    obtain ⟨k, hk, rfl, HO, HB⟩ := hrel
    by_cases hlt : k < many
    · have hbs : base ≤ wr.heap.size := Nat.le_trans hb HB.out.size
      have HO' := Lib.hid (HO.out.alloc (.cells #[.int .u8 (num / 2 ^ (8 * (many - 1 - k)) % 256)] 5))
      go_wp2_with (at_builtin; refine wpList_append_own _ rfl (.tmp 14) (.tmp 20) 42 rfl base 5 i0 (.int .u8 0) 1 1 Tryd.underlying42 hi hz0 hz1 hz2 rfl (by decide) _ (n + k) ((xs ++ (beI many num).take k).map (Value.int .u8)) rfl HO'.out ⟨wr.heap.size, 0, none⟩ 1 1 [.int .u8 (num / 2 ^ (8 * (many - 1 - k)) % 256)] rfl rfl (news_one (by go_simp)) (by simp [Value.oneCell']) (by simp only [maxLen]; omega) (by omega) (by simp; omega) ?_; intro v4 w4 hown4 hgr4 _)
      have hrow := fun b e => (HO.out.lt b e).1
      go_roundw
      case rel => exact ⟨k + 1, by omega, (by go_num), (by show World.ownsRow _ _ _ _ _ _ _; rw [beI_take many k num hlt, ← List.append_assoc, List.map_append]; exact hown4), HB.out.trans (upto_grown hgr4 hbs hrow)⟩
      case measure => simp [intOf]; omega
    · obtain rfl : k = many := by omega
      go_wp2_with fail
      go_ret
      exact ⟨_, rfl, by have := HO.out; rwa [List.take_of_length_le (by rw [beI_length]; omega)] at this, HB.out⟩

set_option maxRecDepth 100000 in
set_option maxHeartbeats 1000000 in
theorem get_any (w : World) (b off n cap : Nat) (xs : List Int) (hl : xs.length = n) (hn : n ≤ 4) (hx : Bytes xs) (hc : ∀ i, i < n → w.cell? ⟨b, off + i, none⟩ = some (.int .u8 (xs.getD i 0))) :
    Calls Tryd.prog 50 #[.slice (some ⟨b, off, none⟩) n cap] w fun e w' => e = .returned (.int .i64 (valI xs)) ∧ w = w' := by
  go_enter Tryd.func50, Tryd.ntmps50
  go_wp2_with fail
  go_loop [3, 8] (fun t i => ∃ k : Nat, k ≤ n ∧ i = .int .i64 k ∧ t = .int .i64 (valI (xs.take k))) (fun _ i => n - (intOf i).toNat)
  case atStart => exact ⟨0, Nat.zero_le _, rfl, rfl⟩
  case round =>
    obtain ⟨k, hk, rfl, rfl⟩ := hrel
    by_cases hlt : k < n
    · have hcell := hc k hlt
      have hb := hx (xs.getD k 0) (mem_getD (by omega))
      have hxk : Hid (xs[k]'(by omega) = xs.getD k 0) := by show _ = _; simp [show k < xs.length by omega]
      generalize xs.getD k 0 = x at hcell hb hxk
      obtain ⟨x0, x1⟩ := hb
      clear hc
      have hsn : Hid (valI (xs.take (k + 1)) = valI (xs.take k) * 256 + x) := by
        show _ = _
        rw [List.take_succ_eq_append_getElem (by omega), valI_snoc, hxk.out]
      have hbd := valI_bound (xs.take k) (fun y hy => hx y (List.mem_of_mem_take hy))
      have hpw : (256 : Int) ^ (xs.take k).length ≤ 16777216 := by
        have hk3 : k = 0 ∨ k = 1 ∨ k = 2 ∨ k = 3 := by omega
        have hlk : (xs.take k).length = k := by simp; omega
        rw [hlk]
        rcases hk3 with h | h | h | h <;> (rw [h]; decide)
      have y0 := hbd.1
      have y1 : valI (xs.take k) ≤ 16777216 := by omega
      clear hbd hpw
      generalize valI (xs.take k) = y at hsn y0 y1
      have HJ := Lib.hid (or_join y x y0 y1 x0 x1)
      go_wp2_with fail
      go_round
      case rel => exact ⟨k + 1, by omega, by go_num, by rw [HJ.out, hsn.out]⟩
      case measure => simp [intOf]; omega
    · obtain rfl : k = n := by omega
      go_wp2_with fail
      go_ret
      exact ⟨ret_int (by rw [List.take_of_length_le (by omega)]), rfl⟩

def pktVal (p : Pkt) (a : Option Addr) (n cap : Nat) : Value := .agg #[.int .i64 p.type, .int .i64 p.seq, .int .i64 p.time, .int .i64 p.src, .bool p.mark, .slice a n cap]

set_option maxRecDepth 100000 in
set_option maxHeartbeats 1000000 in
theorem checkPacket_ok (w : World) (p : Pkt) (a : Option Addr) (n cap : Nat) (h : PktOk p) (hn : n = p.pay.length) :
    Calls Tryd.prog 48 #[pktVal p a n cap] w fun e w' => e = .returned (.int .i64 0) ∧ Below w.heap.size w w' := by
  obtain ⟨t0, t1, s0, s1, i0, i1, c0, c1, _, few⟩ := h
  have n1 : n ≤ 1000 := by omega
  clear hn few
  unfold pktVal
  go_enter Tryd.func48, Tryd.ntmps48
  go_wp2_with (go_at_call 55; refine (within_m _ _ _ _ (by omega) (by omega)).mono ?_; rintro e w' ⟨rfl, rfl⟩)
  go_ret
  exact ⟨rfl, (by (try show Below _ _ _); repeat (with_reducible first | exact Below.refl _ _ | assumption | exact Hid.out (by assumption) | refine ext_alloc ?_ | refine ext_drewN ?_ | refine ext_drew ?_ | refine ext_setCell ?_ (Nat.le_refl _) | refine ext_setCell ?_ (Nat.le_succ _) | refine ext_trans ?_ (by assumption) | (refine ext_setCell ?_ (by simp)) | (refine ext_setCell ?_ (by simp at *; omega))))⟩

theorem irow_news {k : IntKind} {w : World} {ad : Addr} {n : Nat} {xs : List Int} (h : IRow k w (some ad) n xs) : ∀ (j : Nat) u, (xs.map (Value.int k))[j]? = some u → w.cell? (ad.add j) = some u := by
  intro j u hj
  have hlt : j < xs.length := by
    have := (List.getElem?_eq_some_iff.1 hj).1
    simpa using this
  obtain ⟨hn, h0 | ⟨b, off, ha, hb, hc⟩⟩ := h
  · omega
  · cases ha
    have hp : (⟨b, off, none⟩ : Addr).add j = ⟨b, off + j, none⟩ := by unfold Addr.add; split <;> simp_all
    rw [hp, hc j (by omega)]
    rw [getD_map_int k xs j hlt] at hj
    exact hj

def WritePost (p : Pkt) (w : World) (e : Ending) (w' : World) : Prop :=
  ∃ v, e = .returned (.tuple #[v, .int .i64 0]) ∧ w'.ownsRow w.heap.size 5 1 v (12 + p.pay.length) ((encode p).map (Value.int .u8)) ∧ Below w.heap.size w w'

set_option maxRecDepth 100000 in
set_option maxHeartbeats 4000000 in
theorem write_any (w : World) (p : Pkt) (a : Option Addr) (n cap : Nat) (h : PktOk p) (hr : IRow .u8 w a n p.pay) (hcap : a = none → n = 0 ∧ cap = 0) :
    Calls Tryd.prog 17 #[pktVal p a n cap] w (WritePost p w) := by
  obtain ⟨i0, hi, hz0, hz1, hz2⟩ := info_parts Tryd.infoByte
  have hsec : 0 ≤ second p ∧ second p ≤ 255 := second_range h
  have HR := Lib.hid hr
  have HOK := Lib.hid h
  have hs2 := h.s0; have hs3 := h.s1; have ht2 := h.i0; have ht3 := h.i1; have hc2 := h.c0; have hc3 := h.c1; have hy0 := h.t0; have hy1 := h.t1
  clear hr h
  unfold pktVal
  go_enter Tryd.func17, Tryd.ntmps17
  go_wp2_with fail
  refine (checkPacket_ok _ p a n cap HOK.out HR.out.1).mono ?_
  rintro e w1 ⟨rfl, hB1⟩
  have c0 := (hB1.cell (p := ⟨w.heap.size, 0, none⟩) (by simp)).trans (show _ = some (.int .i64 p.type) by go_simp)
  have c1 := (hB1.cell (p := ⟨w.heap.size, 1, none⟩) (by simp)).trans (show _ = some (.int .i64 p.seq) by go_simp)
  have c2 := (hB1.cell (p := ⟨w.heap.size, 2, none⟩) (by simp)).trans (show _ = some (.int .i64 p.time) by go_simp)
  have c3 := (hB1.cell (p := ⟨w.heap.size, 3, none⟩) (by simp)).trans (show _ = some (.int .i64 p.src) by go_simp)
  have c4 := (hB1.cell (p := ⟨w.heap.size, 4, none⟩) (by simp)).trans (show _ = some (.bool p.mark) by go_simp)
  have c5 := (hB1.cell (p := ⟨w.heap.size, 5, none⟩) (by simp)).trans (show _ = some (.slice a n cap) by go_simp)
  have z1 : w.heap.size + 1 ≤ w1.heap.size := by have := hB1.size; simp at this; omega
  have HB1 : Hid (Below w.heap.size w w1) := (by (try show Below _ _ _); repeat (with_reducible first | exact Below.refl _ _ | assumption | exact Hid.out (by assumption) | refine ext_alloc ?_ | refine ext_drewN ?_ | refine ext_drew ?_ | refine ext_setCell ?_ (Nat.le_refl _) | refine ext_setCell ?_ (Nat.le_succ _) | refine ext_trans ?_ (by assumption) | (refine ext_setCell ?_ (by simp)) | (refine ext_setCell ?_ (by simp at *; omega))))
  clear hB1
  have hse : Hid (∀ b : Bool, b = p.mark → second p = if b = true then p.type + 128 else p.type) := fun b hb => by subst hb; rfl
  cases hmk : p.mark with
  | true =>
    have hs := hse.out true hmk.symm
    rw [if_pos rfl] at hs
    rw [hmk] at c4
    go_wp2_with fail
    have hwr : IntKind.u8.wrap (p.type + 128) = p.type + 128 := by rw [IntKind.wrap_u8]; omega
    go_region_held3 (fun w' => w'.cell? ⟨w.heap.size, 1, none⟩ = some (.int .i64 p.seq) ∧ w'.cell? ⟨w.heap.size, 2, none⟩ = some (.int .i64 p.time) ∧ w'.cell? ⟨w.heap.size, 3, none⟩ = some (.int .i64 p.src))
      (first
        | exact ⟨(hB4.cell (p := ⟨w.heap.size, 1, none⟩) (by show w.heap.size < w1.heap.size; omega)).trans e31, (hB4.cell (p := ⟨w.heap.size, 2, none⟩) (by show w.heap.size < w1.heap.size; omega)).trans e32, (hB4.cell (p := ⟨w.heap.size, 3, none⟩) (by show w.heap.size < w1.heap.size; omega)).trans e33⟩
        | exact ⟨e31, e32, e33⟩
        | exact ⟨e21, e22, e23⟩
        | exact ⟨c1, c2, c3⟩
        | go_keep)
      (first
        | (go_at_call 49; refine (put_any w3 w1.heap.size v3 8 4 _ p.src hown3 z3 (by omega) (by omega) (by omega) (by omega)).mono ?_; rintro e w4 ⟨v4, rfl, hown4, hB4⟩; have hB41 := hB31.trans hB4)
        | (go_at_call 49; refine (put_any w2 w1.heap.size v2 4 4 _ p.time hown2 z2 (by omega) (by omega) (by omega) (by omega)).mono ?_; rintro e w3 ⟨v3, rfl, hown3, hB3⟩; have z3 : w1.heap.size ≤ w3.heap.size := Nat.le_trans z2 hB3.size; have hB31 := hB2.trans hB3; have e31 := (hB3.cell (p := ⟨w.heap.size, 1, none⟩) (by show w.heap.size < w1.heap.size; omega)).trans e21; have e32 := (hB3.cell (p := ⟨w.heap.size, 2, none⟩) (by show w.heap.size < w1.heap.size; omega)).trans e22; have e33 := (hB3.cell (p := ⟨w.heap.size, 3, none⟩) (by show w.heap.size < w1.heap.size; omega)).trans e23)
        | (go_at_call 49; refine (put_any _ w1.heap.size _ 2 2 [128, p.type + 128] p.seq (World.ownsRow_lit w1.drew #[.int .u8 128, .int .u8 (p.type + 128)] 2 (Nat.le_refl _) (by decide) rfl) (by simp) (by omega) (by omega) (by omega) (by omega)).mono ?_; rintro e w2 ⟨v2, rfl, hown2, hB2'⟩; have hB2 : Below w1.heap.size w1 w2 := Below.trans (ext_alloc (ext_drew (Below.refl _ w1))) hB2'; have z2 : w1.heap.size ≤ w2.heap.size := hB2.size; have e21 := (hB2.cell (p := ⟨w.heap.size, 1, none⟩) (by show w.heap.size < w1.heap.size; omega)).trans c1; have e22 := (hB2.cell (p := ⟨w.heap.size, 2, none⟩) (by show w.heap.size < w1.heap.size; omega)).trans c2; have e23 := (hB2.cell (p := ⟨w.heap.size, 3, none⟩) (by show w.heap.size < w1.heap.size; omega)).trans c3))
    clear hwr
    have c5' : w4.cell? ⟨w.heap.size, 5, none⟩ = some (.slice a n cap) := (hB41.cell (p := ⟨w.heap.size, 5, none⟩) (by show w.heap.size < w1.heap.size; omega)).trans c5
    have HW4 : Hid (Below w.heap.size w w4) := HB1.out.trans (hB41.mono (by omega))
    have HRw := Lib.hid (HR.out.below HW4.out)
    have HE : Hid (encode p = ([128, p.type + 128] ++ beI 2 p.seq ++ beI 4 p.time ++ beI 4 p.src) ++ p.pay) := by show _ = _; unfold encode; rw [hs]
    have z4 : w1.heap.size ≤ w4.heap.size := hB41.size
    have HN : Hid (n = p.pay.length) := HR.out.1
    have few := HOK.out.few
    clear hs hB41 hB31 hB4 hB3 hB2 hB2' hown2 hown3
    try clear hHeld
    cases a with
    | none =>
      obtain ⟨rfl, rfl⟩ := hcap rfl
      go_wp2_with (at_builtin; refine wpList_append_own_none rfl (.tmp 30) (.tmp 32) 42 rfl w1.heap.size 5 i0 1 Tryd.underlying42 hi v4 (8 + 4) _ rfl hown4 rfl ?_)
      go_ret2
      have hp0 : p.pay = [] := List.eq_nil_of_length_eq_zero HN.out.symm
      exact ⟨v4, rfl, by rw [HE.out, hp0, List.append_nil]; exact hown4.mono (by omega), HW4.out⟩
    | some ad =>
      have hn1 : n ≤ 1000 := by rw [HN.out]; exact few
      go_wp2_with (at_builtin; refine wpList_append_own _ rfl (.tmp 30) (.tmp 32) 42 rfl w1.heap.size 5 i0 (.int .u8 0) 1 1 Tryd.underlying42 hi hz0 hz1 hz2 rfl (by decide) v4 (8 + 4) _ rfl hown4 ad n cap (p.pay.map (Value.int .u8)) rfl (by rw [List.length_map, HN.out]; omega) (irow_news HRw.out) (by simp [Value.oneCell']) (by simp only [maxLen]; omega) (by omega) (by omega) ?_; intro v5 w5 hown5 hgr5 _)
      go_ret2
      exact ⟨v5, rfl, by rw [HE.out, ← HN.out, List.map_append]; exact hown5.mono (by omega), HW4.out.trans (((Below.refl _ w4).grown hgr5 (by omega) (fun b e => (hown4.lt b e).1)).mono (by omega))⟩
  | false =>
    have hs := hse.out false hmk.symm
    rw [if_neg (by decide)] at hs
    rw [hmk] at c4
    go_wp2_with fail
    have hwr : IntKind.u8.wrap p.type = p.type := by rw [IntKind.wrap_u8]; omega
    go_region_held3 (fun w' => w'.cell? ⟨w.heap.size, 1, none⟩ = some (.int .i64 p.seq) ∧ w'.cell? ⟨w.heap.size, 2, none⟩ = some (.int .i64 p.time) ∧ w'.cell? ⟨w.heap.size, 3, none⟩ = some (.int .i64 p.src))
      (first
        | exact ⟨(hB4.cell (p := ⟨w.heap.size, 1, none⟩) (by show w.heap.size < w1.heap.size; omega)).trans e31, (hB4.cell (p := ⟨w.heap.size, 2, none⟩) (by show w.heap.size < w1.heap.size; omega)).trans e32, (hB4.cell (p := ⟨w.heap.size, 3, none⟩) (by show w.heap.size < w1.heap.size; omega)).trans e33⟩
        | exact ⟨e31, e32, e33⟩
        | exact ⟨e21, e22, e23⟩
        | exact ⟨c1, c2, c3⟩
        | go_keep)
      (first
        | (go_at_call 49; refine (put_any w3 w1.heap.size v3 8 4 _ p.src hown3 z3 (by omega) (by omega) (by omega) (by omega)).mono ?_; rintro e w4 ⟨v4, rfl, hown4, hB4⟩; have hB41 := hB31.trans hB4)
        | (go_at_call 49; refine (put_any w2 w1.heap.size v2 4 4 _ p.time hown2 z2 (by omega) (by omega) (by omega) (by omega)).mono ?_; rintro e w3 ⟨v3, rfl, hown3, hB3⟩; have z3 : w1.heap.size ≤ w3.heap.size := Nat.le_trans z2 hB3.size; have hB31 := hB2.trans hB3; have e31 := (hB3.cell (p := ⟨w.heap.size, 1, none⟩) (by show w.heap.size < w1.heap.size; omega)).trans e21; have e32 := (hB3.cell (p := ⟨w.heap.size, 2, none⟩) (by show w.heap.size < w1.heap.size; omega)).trans e22; have e33 := (hB3.cell (p := ⟨w.heap.size, 3, none⟩) (by show w.heap.size < w1.heap.size; omega)).trans e23)
        | (go_at_call 49; refine (put_any _ w1.heap.size _ 2 2 [128, p.type] p.seq (World.ownsRow_lit w1.drew #[.int .u8 128, .int .u8 (p.type)] 2 (Nat.le_refl _) (by decide) rfl) (by simp) (by omega) (by omega) (by omega) (by omega)).mono ?_; rintro e w2 ⟨v2, rfl, hown2, hB2'⟩; have hB2 : Below w1.heap.size w1 w2 := Below.trans (ext_alloc (ext_drew (Below.refl _ w1))) hB2'; have z2 : w1.heap.size ≤ w2.heap.size := hB2.size; have e21 := (hB2.cell (p := ⟨w.heap.size, 1, none⟩) (by show w.heap.size < w1.heap.size; omega)).trans c1; have e22 := (hB2.cell (p := ⟨w.heap.size, 2, none⟩) (by show w.heap.size < w1.heap.size; omega)).trans c2; have e23 := (hB2.cell (p := ⟨w.heap.size, 3, none⟩) (by show w.heap.size < w1.heap.size; omega)).trans c3))
    clear hwr
    have c5' : w4.cell? ⟨w.heap.size, 5, none⟩ = some (.slice a n cap) := (hB41.cell (p := ⟨w.heap.size, 5, none⟩) (by show w.heap.size < w1.heap.size; omega)).trans c5
    have HW4 : Hid (Below w.heap.size w w4) := HB1.out.trans (hB41.mono (by omega))
    have HRw := Lib.hid (HR.out.below HW4.out)
    have HE : Hid (encode p = ([128, p.type] ++ beI 2 p.seq ++ beI 4 p.time ++ beI 4 p.src) ++ p.pay) := by show _ = _; unfold encode; rw [hs]
    have z4 : w1.heap.size ≤ w4.heap.size := hB41.size
    have HN : Hid (n = p.pay.length) := HR.out.1
    have few := HOK.out.few
    clear hs hB41 hB31 hB4 hB3 hB2 hB2' hown2 hown3
    try clear hHeld
    cases a with
    | none =>
      obtain ⟨rfl, rfl⟩ := hcap rfl
      go_wp2_with (at_builtin; refine wpList_append_own_none rfl (.tmp 30) (.tmp 32) 42 rfl w1.heap.size 5 i0 1 Tryd.underlying42 hi v4 (8 + 4) _ rfl hown4 rfl ?_)
      go_ret2
      have hp0 : p.pay = [] := List.eq_nil_of_length_eq_zero HN.out.symm
      exact ⟨v4, rfl, by rw [HE.out, hp0, List.append_nil]; exact hown4.mono (by omega), HW4.out⟩
    | some ad =>
      have hn1 : n ≤ 1000 := by rw [HN.out]; exact few
      go_wp2_with (at_builtin; refine wpList_append_own _ rfl (.tmp 30) (.tmp 32) 42 rfl w1.heap.size 5 i0 (.int .u8 0) 1 1 Tryd.underlying42 hi hz0 hz1 hz2 rfl (by decide) v4 (8 + 4) _ rfl hown4 ad n cap (p.pay.map (Value.int .u8)) rfl (by rw [List.length_map, HN.out]; omega) (irow_news HRw.out) (by simp [Value.oneCell']) (by simp only [maxLen]; omega) (by omega) (by omega) ?_; intro v5 w5 hown5 hgr5 _)
      go_ret2
      exact ⟨v5, rfl, by rw [HE.out, ← HN.out, List.map_append]; exact hown5.mono (by omega), HW4.out.trans (((Below.refl _ w4).grown hgr5 (by omega) (fun b e => (hown4.lt b e).1)).mono (by omega))⟩
end Go.Proofs.YtlllckclfpdhgaaDoor
