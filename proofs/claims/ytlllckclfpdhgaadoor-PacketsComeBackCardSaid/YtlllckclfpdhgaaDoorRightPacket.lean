/- What is proved here: the packets that a stream makes are right. Condition: the stream lies in memory as stated. -/
import Derived.Test.YtlllckclfpdhgaaDoorPacketMake
namespace Go.Proofs.YtlllckclfpdhgaaDoor
open Go.RowKit
set_option linter.unusedVariables false
set_option linter.unusedSimpArgs false

/-- A packet in the making, in block T: its payload lies behind it. -/
structure PkAt (S K T : Nat) (w2 wr : World) (t s i c : Int) (mk : Bool) (v : Value) (q : Nat) (xs : List Int) : Prop where
  c0 : wr.cell? ⟨T, 0, none⟩ = some (.int .i64 t)
  c1 : wr.cell? ⟨T, 1, none⟩ = some (.int .i64 s)
  c2 : wr.cell? ⟨T, 2, none⟩ = some (.int .i64 i)
  c3 : wr.cell? ⟨T, 3, none⟩ = some (.int .i64 c)
  c4 : wr.cell? ⟨T, 4, none⟩ = some (.bool mk)
  c5 : wr.cell? ⟨T, 5, none⟩ = some v
  fro : ∀ j, wr.frozen? ⟨T, j, none⟩ = false
  own : wr.ownsRow (T + 1) 5 1 v q (xs.map (Value.int .u8))
  bytes : Bytes xs
  keeps : Keeps S w2 wr
  stream : StreamOk wr S (K + q)
  size : T < wr.heap.size

theorem PkAt.kept {S K T : Nat} {w2 wr w' : World} {t s i c : Int} {mk : Bool} {v : Value} {q : Nat} {xs : List Int} (h : PkAt S K T w2 wr t s i c mk v q xs) (hS : S < T) (hk : Keeps S wr w') : (w'.cell? ⟨T, 0, none⟩ = some (.int .i64 t) ∧ w'.cell? ⟨T, 1, none⟩ = some (.int .i64 s) ∧ w'.cell? ⟨T, 2, none⟩ = some (.int .i64 i) ∧ w'.cell? ⟨T, 3, none⟩ = some (.int .i64 c) ∧ w'.cell? ⟨T, 4, none⟩ = some (.bool mk) ∧ w'.cell? ⟨T, 5, none⟩ = some v) ∧ (∀ j, w'.frozen? ⟨T, j, none⟩ = false) ∧ w'.ownsRow (T + 1) 5 1 v q (xs.map (Value.int .u8)) ∧ Keeps S w2 w' ∧ T < w'.heap.size := by
  have cc := fun j => hk.cell (p := ⟨T, j, none⟩) h.size (by show T ≠ S; omega)
  exact ⟨⟨(cc 0).trans h.c0, (cc 1).trans h.c1, (cc 2).trans h.c2, (cc 3).trans h.c3, (cc 4).trans h.c4, (cc 5).trans h.c5⟩, fun j => (hk.frozen (p := ⟨T, j, none⟩) h.size (by show T ≠ S; omega)).trans (h.fro j), own_keeps h.own hk (by omega), h.keeps.trans hk, Nat.lt_of_lt_of_le h.size hk.size⟩

def RPktPost (S k : Nat) (w : World) (e : Ending) (w' : World) : Prop :=
  ∃ (p : Pkt) (a : Option Addr) (n cap : Nat), e = .returned (pktVal p a n cap) ∧ PktOk p ∧ IRow .u8 w' a n p.pay ∧ (a = none → n = 0 ∧ cap = 0) ∧ (∀ b off, a = some ⟨b, off, none⟩ → w.heap.size ≤ b) ∧ n ≤ 5 ∧ StreamOk w' S k ∧ Keeps S w w'

set_option maxRecDepth 100000 in
set_option maxHeartbeats 4000000 in
theorem rightPacket_any (S k : Nat) (w : World) (h : StreamOk w S k) (hk : k ≤ 1000000) :
    Calls Tryd.prog 16 #[.pointer (some ⟨S, 0, none⟩)] w (RPktPost S (k + 11) w) := by
  obtain ⟨i0, hi, hz0, hz1, hz2⟩ := info_parts Tryd.infoByte
  have hS := h.lt
  have H := Lib.hid h
  clear h
  go_enter Tryd.func16, Tryd.ntmps16
  go_wp2_with fail
  refine (pick3 S (k + 0) _ 0 8 127 (fun r => 0 ≤ r ∧ r ≤ 127) _ (H.out.below (ext_alloc (ext_alloc (Below.refl _ _)))) (by omega) (by simp) (by simp; omega) (by go_simp) (by go_simp) (by go_simp) (by omega) (by omega) (by omega)).mono ?_
  rintro e w1 ⟨t, rfl, ⟨t0, t1⟩, hst1, hkp1⟩
  have HK1 := Lib.hid ((Keeps.trans (Keeps.of_below (ext_alloc (Below.refl _ (w.alloc (.cells #[.int .i64 0, .int .i64 0, .int .i64 0, .int .i64 0, .bool false, .slice none 0 0] 44))))) hkp1))
  have HS1 := Lib.hid hst1
  have z1 : w.heap.size + 2 ≤ w1.heap.size := by have := hkp1.size; simp at this; omega
  clear hst1 hkp1
  go_wp2_with fail
  refine (pick5 S (k + 1) _ 0 1 255 256 65535 (fun r => 0 ≤ r ∧ r ≤ 65535) _ (HS1.out.below (ext_alloc (Below.refl _ _))) (by omega) (by simp) (by simp; omega) (by go_simp) (by go_simp) (by go_simp) (by go_simp) (by go_simp) (by omega) (by omega) (by omega) (by omega) (by omega)).mono ?_
  rintro e w2 ⟨s, rfl, ⟨s0, s1⟩, hst2, hkp2⟩
  have HK2 := Lib.hid (HK1.out.trans (Keeps.trans (Keeps.of_below (ext_alloc (Below.refl _ w1))) hkp2))
  have HS2 := Lib.hid hst2
  have z2 : w1.heap.size + 1 ≤ w2.heap.size := by have := hkp2.size; simp at this; omega
  clear hst2 hkp2
  go_wp2_with fail
  refine (pick4 S (k + 2) _ 0 160 4294967295 2147483648 (fun r => 0 ≤ r ∧ r ≤ 4294967295) _ (HS2.out.below (ext_alloc (Below.refl _ _))) (by omega) (by simp) (by simp; omega) (by go_simp) (by go_simp) (by go_simp) (by go_simp) (by omega) (by omega) (by omega) (by omega)).mono ?_
  rintro e w3 ⟨i, rfl, ⟨i0', i1⟩, hst3, hkp3⟩
  have HK3 := Lib.hid (HK2.out.trans (Keeps.trans (Keeps.of_below (ext_alloc (Below.refl _ w2))) hkp3))
  have HS3 := Lib.hid hst3
  have z3 : w2.heap.size + 1 ≤ w3.heap.size := by have := hkp3.size; simp at this; omega
  clear hst3 hkp3
  go_wp2_with fail
  refine (pick3 S (k + 3) _ 0 7 4294967295 (fun r => 0 ≤ r ∧ r ≤ 4294967295) _ (HS3.out.below (ext_alloc (Below.refl _ _))) (by omega) (by simp) (by simp; omega) (by go_simp) (by go_simp) (by go_simp) (by omega) (by omega) (by omega)).mono ?_
  rintro e w4 ⟨c, rfl, ⟨c0', c1'⟩, hst4, hkp4⟩
  have HK4 := Lib.hid (HK3.out.trans (Keeps.trans (Keeps.of_below (ext_alloc (Below.refl _ w3))) hkp4))
  have HS4 := Lib.hid hst4
  have z4 : w3.heap.size + 1 ≤ w4.heap.size := by have := hkp4.size; simp at this; omega
  clear hst4 hkp4
  go_wp2_with fail
  refine (flip_any S (k + 4) 2 _ HS4.out (by omega) (by omega) (by omega)).mono ?_
  rintro e w5 ⟨mk, rfl, hst5, hkp5⟩
  have HK5 := Lib.hid (HK4.out.trans hkp5)
  have HS5 := Lib.hid hst5
  have z5 : w4.heap.size ≤ w5.heap.size := hkp5.size
  clear hst5 hkp5
  go_wp2_with fail
  refine (range_any S (k + 5) 0 5 _ (HS5.out.below (ext_alloc (Below.refl _ _))) (by omega) (by omega) (by omega) (by omega)).mono ?_
  rintro e w6 ⟨m, rfl, m0, m1, hst6, hkp6⟩
  obtain ⟨m, rfl⟩ := Int.eq_ofNat_of_zero_le m0
  have z6 : w5.heap.size + 1 ≤ w6.heap.size := by have := hkp6.size; simp at this; omega
  have HP6 : Hid (PkAt S (k + 6) w5.heap.size (w.alloc (.cells #[.int .i64 0, .int .i64 0, .int .i64 0, .int .i64 0, .bool false, .slice none 0 0] 44)) w6 t s i c mk (.slice none 0 0) 0 []) := by
    have cc := fun j => hkp6.cell (p := ⟨w5.heap.size, j, none⟩) (by simp) (by show w5.heap.size ≠ S; omega)
    refine ⟨(cc 0).trans (by go_simp), (cc 1).trans (by go_simp), (cc 2).trans (by go_simp), (cc 3).trans (by go_simp), (cc 4).trans (by go_simp), (cc 5).trans (by go_simp), fun j => (hkp6.frozen (p := ⟨w5.heap.size, j, none⟩) (by simp) (by show w5.heap.size ≠ S; omega)).trans (by go_simp), World.ownsRow_nil _ _ _ _, (fun x hx => by cases hx), HK5.out.trans (Keeps.trans (Keeps.of_below (ext_alloc (Below.refl _ w5))) hkp6), hst6, by omega⟩
  clear hst6 hkp6
  go_wp2_with fail
  go_loopw [21] (fun it wr => ∃ (q : Nat) (v : Value) (xs : List Int), q ≤ m ∧ it = .int .i64 q ∧ Hid (PkAt S (k + 6) w5.heap.size (w.alloc (.cells #[.int .i64 0, .int .i64 0, .int .i64 0, .int .i64 0, .bool false, .slice none 0 0] 44)) wr t s i c mk v q xs)) (fun it _ => m - (intOf it).toNat)
  case atStart => exact ⟨0, _, [], Nat.zero_le _, rfl, HP6⟩
  case round =>
    obtain ⟨q, v, xs, hq, rfl, HT⟩ := hrel
    have hTS : S < w5.heap.size := by omega
    by_cases hlt : q < m
    · have c5 := HT.out.c5
      have zT := HT.out.size
      have n5 : q + 1 ≤ maxLen := by unfold maxLen; omega
      have N5 := Lib.hid n5
      clear n5
      go_wp2_with fail
      refine region_gen S (k + 6 + q) 6 [.val (· = .pointer (some ⟨w5.heap.size, 5, none⟩)), .val (v = ·), .val (· = .pointer (some ⟨S, 0, none⟩)), .val (fun x => ∃ r : Int, x = .int .i64 r ∧ (0 ≤ r ∧ r ≤ 255)), .val (fun x => ∃ r : Int, x = .int .u8 r ∧ 0 ≤ r ∧ r ≤ 255), .arr 1 (fun vs => ∃ r : Int, (0 ≤ r ∧ r ≤ 255) ∧ vs = [.int .u8 r])] [3] [some 23, some 24, some 25, some 26, some 27, some 28] (by kernel_rfl) (by kernel_rfl) (by kernel_rfl) (by kernel_rfl) rfl (by kernel_rfl) HT.out.stream ⟨?_, ?_, ?_, ?_, ?_, ?_, trivial⟩ ?_
      · intro a w' c hk hst hc hfr hdp K hK
        have f : a.tmps[3]?.getD undef = .pointer (some ⟨w5.heap.size, 0, none⟩) := slot_of (hfr 3 (by kernel_rfl))
        refine gen_pure (v := .pointer (some ⟨w5.heap.size, 5, none⟩)) ?_ (hK _ _ rfl (Keeps.refl _ _) hst)
        go_simp
      · intro a w' c hk hst hc hfr hdp K hK
        have d : a.tmps[23]?.getD undef = .pointer (some ⟨w5.heap.size, 5, none⟩) := slot_of (hdp 0 23 _ (by kernel_rfl) (by kernel_rfl) rfl)
        have cl : w'.cell? ⟨w5.heap.size, 5, none⟩ = some (v) := (hk.cell (p := ⟨w5.heap.size, 5, none⟩) (by show w5.heap.size < wr.heap.size; omega) (by show w5.heap.size ≠ S; omega)).trans c5
        refine gen_pure (v := v) ?_ (hK _ _ rfl (Keeps.refl _ _) hst)
        go_simp
      · intro a w' c hk hst hc hfr hdp K hK
        have f : a.tmps[0]?.getD undef = .pointer (some ⟨S, 0, none⟩) := slot_of (hfr 0 (by kernel_rfl))
        refine gen_pure (v := .pointer (some ⟨S, 0, none⟩)) ?_ (hK _ _ rfl (Keeps.refl _ _) hst)
        go_simp
      · intro a w' c hk hst hc hfr hdp K hK
        have d1 : a.tmps[25]?.getD undef = .pointer (some ⟨S, 0, none⟩) := slot_of (hdp 2 25 _ (by kernel_rfl) (by kernel_rfl) rfl)
        have hc2 : c + 1 ≤ 1 := hc
        refine gen_call 12 #[.pointer (some ⟨S, 0, none⟩), .int .i64 (0), .int .i64 (255)] ?_ (range_any S _ (0) (255) w' hst (by omega) (by omega) (by omega) (by omega)) ?_
        · clear hK; go_simp
        rintro e w'' ⟨r, rfl, r0, r1, hst2, hkp⟩
        exact ⟨_, rfl, hK _ _ ⟨r, rfl, r0, r1⟩ hkp hst2⟩
      · intro a w' c hk hst hc hfr hdp K hK
        obtain ⟨r, g3, r0, r1⟩ := hdp 3 26 _ (by kernel_rfl) (by kernel_rfl) rfl
        have s3 := slot_of g3
        have hwr : IntKind.u8.wrap r = r := by rw [IntKind.wrap_u8]; omega
        refine gen_pure (v := .int .u8 r) ?_ (hK _ _ ⟨r, rfl, r0, r1⟩ (Keeps.refl _ _) hst)
        clear g3 hK
        go_simp
      · intro a w' c hk hst hc hfr hdp K hK
        obtain ⟨r, g3, r0, r1⟩ := hdp 4 27 _ (by kernel_rfl) (by kernel_rfl) rfl
        have s3 := slot_of g3
        refine gen_alloc (p := fun vs => ∃ r : Int, (0 ≤ r ∧ r ≤ 255) ∧ vs = [.int .u8 r]) #[.int .u8 r] 5 ?_ ⟨r, ⟨r0, r1⟩, rfl⟩ hst hK
        clear g3 hK
        go_simp
      intro w8 hk8 hst8
      rintro _ rfl _ rfl _ rfl _ - _ - _ ⟨gb, _, rfl, ⟨r, hr, rfl⟩, hgb, hgl, hgc⟩
      simp only [ForVals, Act.put, List.setIfInBounds_toArray, List.set_cons_zero, List.set_cons_succ, List.drop_succ_cons, List.drop_zero]
      have hkd : Keeps S wr w8 := Keeps.trans (by exact Keeps.of_below (ext_drew (Below.refl _ _))) hk8
      obtain ⟨⟨d0, d1, d2, d3, d4, d5⟩, dfro, down, dkp, dsz⟩ := HT.out.kept hTS hkd
      have HST8 := Lib.hid hst8
      have HD := Lib.hid (And.intro d0 (And.intro d1 (And.intro d2 (And.intro d3 (And.intro d4 dfro)))))
      have HDK := Lib.hid dkp
      have f5 := dfro 5
      clear hst8 hk8 hkd d0 d1 d2 d3 d4 dfro dkp
      refine wpList_append_own w8 rfl (.tmp 24) (.tmp 28) 42 rfl (w5.heap.size + 1) 5 i0 (.int .u8 0) 1 1 Tryd.underlying42 hi hz0 hz1 hz2 rfl (by decide) v q (xs.map (Value.int .u8)) rfl down ⟨gb, 0, none⟩ 1 1 [.int .u8 r] rfl rfl (fun j u hj => by rw [addr_add0]; exact hgc j u hj) (by simp [Value.oneCell']) N5.out (by omega) (by omega) ?_
      intro v9 w9 hown9 hgr9 _
      obtain ⟨ga, gcap, rfl⟩ := own_slice hown9
      have ag : v.ownBlock ≠ some w5.heap.size := fun e => by have := (down.lt _ e).1; omega
      have c9 : w9.cell? ⟨w5.heap.size, 5, none⟩ = some v := (grown_cell hgr9 (by omega) ag).trans d5
      have f9 : w9.frozen? ⟨w5.heap.size, 5, none⟩ = false := (grown_frozen hgr9 (by omega) ag).trans f5
      have HN : Hid (PkAt S (k + 6) w5.heap.size (w.alloc (.cells #[.int .i64 0, .int .i64 0, .int .i64 0, .int .i64 0, .bool false, .slice none 0 0] 44)) (w9.setCell ⟨w5.heap.size, 5, none⟩ (.slice ga (q + 1) gcap)) t s i c mk (.slice ga (q + 1) gcap) (q + 1) (xs ++ [r])) := by
        obtain ⟨d0, d1, d2, d3, d4, dfro⟩ := HD.out
        have cc := fun j => (World.cell?_setCell_other w9 ⟨w5.heap.size, 5, none⟩ ⟨w5.heap.size, j, none⟩ (.slice ga (q + 1) gcap))
        have gg := fun j => grown_cell (o := j) hgr9 dsz ag
        refine ⟨(cc 0 (by simp)).trans ((gg 0).trans d0), (cc 1 (by simp)).trans ((gg 1).trans d1), (cc 2 (by simp)).trans ((gg 2).trans d2), (cc 3 (by simp)).trans ((gg 3).trans d3), (cc 4 (by simp)).trans ((gg 4).trans d4), World.cell?_setCell_same _ _ _ c9, fun j => by rw [World.frozen?_setCell]; exact (grown_frozen hgr9 dsz ag).trans (dfro j), ?_, ?_, ?_, ?_, ?_⟩
        · rw [List.map_append]; exact ownsRow_setCell_below hown9 (by show w5.heap.size < _; omega) _
        · intro x hx
          rcases List.mem_append.1 hx with hx | hx
          · exact HT.out.bytes x hx
          · simp at hx; omega
        · exact (HDK.out.grown0 hgr9 (fun b e => by have := (down.lt b e).1; simp; omega)).setCell_new (by simp; omega) _
        · exact HST8.out.upto ((((Below.refl (S + 1) w8).grown hgr9 (by omega) (fun b e => by have := (down.lt b e).1; omega))).setCell (by show S + 1 ≤ w5.heap.size; omega) _)
        · have := hgr9.size; simp; omega
      clear hown9 hgr9 HD HDK HST8 hgc down d5 f5
      go_wp2_with fail
      go_roundw
      case rel => exact ⟨q + 1, _, xs ++ [r], by omega, by go_num, HN⟩
      case measure => simp [intOf]; omega
    · obtain rfl : q = m := by omega
      obtain ⟨av, cap, rfl, hrow, hat⟩ := IRow.of_own_at HT.out.own
      have c0 := HT.out.c0
      have c1 := HT.out.c1
      have c2 := HT.out.c2
      have c3 := HT.out.c3
      have c4 := HT.out.c4
      have c5 := HT.out.c5
      have zT := HT.out.size
      have rr := fun j => HT.out.keeps.cell (p := ⟨w.heap.size, j, none⟩) (by simp) (by show w.heap.size ≠ S; omega)
      have rf := fun j => HT.out.keeps.frozen (p := ⟨w.heap.size, j, none⟩) (by simp) (by show w.heap.size ≠ S; omega)
      have r0 := (rr 0).trans (show _ = some (.int .i64 0) by go_simp)
      have q0 := (rf 0).trans (show _ = false by go_simp)
      have r1 := (rr 1).trans (show _ = some (.int .i64 0) by go_simp)
      have q1 := (rf 1).trans (show _ = false by go_simp)
      have r2 := (rr 2).trans (show _ = some (.int .i64 0) by go_simp)
      have q2 := (rf 2).trans (show _ = false by go_simp)
      have r3 := (rr 3).trans (show _ = some (.int .i64 0) by go_simp)
      have q3 := (rf 3).trans (show _ = false by go_simp)
      have r4 := (rr 4).trans (show _ = some (.bool false) by go_simp)
      have q4 := (rf 4).trans (show _ = false by go_simp)
      have r5 := (rr 5).trans (show _ = some (.slice none 0 0) by go_simp)
      have q5 := (rf 5).trans (show _ = false by go_simp)
      have HROW := Lib.hid hrow
      have HAT := Lib.hid hat
      clear rr rf hrow hat
      go_wp2_with fail
      have hw := (((((((Keeps.refl w.heap.size wr).setCell (p := ⟨w.heap.size, 0, none⟩) rfl (.int .i64 t)).setCell (p := ⟨w.heap.size, 1, none⟩) rfl (.int .i64 s)).setCell (p := ⟨w.heap.size, 2, none⟩) rfl (.int .i64 i)).setCell (p := ⟨w.heap.size, 3, none⟩) rfl (.int .i64 c)).setCell (p := ⟨w.heap.size, 4, none⟩) rfl (.bool mk)).setCell (p := ⟨w.heap.size, 5, none⟩) rfl (.slice av q cap))
      have hkw : Keeps S w wr := Keeps.trans (Keeps.of_below (ext_alloc (Below.refl _ w))) HT.out.keeps
      refine bodyPost_ret (v := .agg #[.int .i64 t, .int .i64 s, .int .i64 i, .int .i64 c, .bool mk, .slice av q cap]) (by simp [results, Tryd.results16, go_sem, r0, r1, r2, r3, r4, r5]) rfl ⟨⟨t, s, i, c, mk, xs⟩, av, q, cap, rfl, ⟨t0, t1, s0, s1, i0', i1, c0', c1', HT.out.bytes, by have := HROW.out.1; show xs.length ≤ 1000; omega⟩, HROW.out.keeps hw (fun b off e => by have := HAT.out b off e; omega), (fun h => own_nil HT.out.own h), (fun b off e => by have := HAT.out b off e; omega), by omega, (HT.out.stream.upto (hw.below (B := S + 1) (by omega) (by omega))).mono (by omega), ?_⟩
      exact (((((hkw.setCell_new (Nat.le_refl _) _).setCell_new (Nat.le_refl _) _).setCell_new (Nat.le_refl _) _).setCell_new (Nat.le_refl _) _).setCell_new (Nat.le_refl _) _).setCell_new (Nat.le_refl _) _
end Go.Proofs.YtlllckclfpdhgaaDoor
