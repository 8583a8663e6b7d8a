/- What is proved here: the arrivals that a stream makes are right. Condition: the stream lies in memory as stated. -/
import Derived.Test.YtdjlchhfpomaiaaDoorArrRows
import Derived.BigRegion
namespace Go.Proofs.YtdjlchhfpomaiaaDoor
open Go.RowKit
set_option linter.unusedVariables false
set_option linter.unusedSimpArgs false

def RArrPost (S k most : Nat) (w : World) (e : Ending) (w' : World) : Prop :=
  ∃ (l : List Arr) (a : Option Addr) (cap : Nat), e = .returned (.slice a l.length cap) ∧ ArrOk l ∧ l.length ≤ 2 * most ∧ WSt w' S (.slice a l.length cap) (.slice none 0 0) l [] ∧ StreamOk w' S k ∧ Keeps S w w'

set_option maxRecDepth 100000 in
set_option maxHeartbeats 4000000 in
theorem rightArrivals_any (S k most : Nat) (w : World) (h : StreamOk w S k) (hk : k ≤ 1000000) (hmost : most ≤ 100) :
    Calls Tryd.prog 13 #[.pointer (some ⟨S, 0, none⟩), .int .i64 most] w (RArrPost S (k + 5 + 20 * most) most w) := by
  obtain ⟨i0, hi, hz0, hz1, hz2⟩ := info_parts Tryd.infoByte
  obtain ⟨i1, hi1, hy0, hy1, hy2⟩ := info_parts Tryd.infoArr
  have hS := h.lt
  have H := Lib.hid h
  clear h
  go_enter Tryd.func13, Tryd.ntmps13
  go_wp2_with fail
  refine (pick3 S (k + 0) _ 0 5 65533 (fun r => 0 ≤ r ∧ r ≤ 65533) _ (H.out.below (ext_alloc (Below.refl _ _))) (by omega) (by simp) (by simp; omega) (by go_simp) (by go_simp) (by go_simp) (by omega) (by omega) (by omega)).mono ?_
  rintro e w1 ⟨sq, rfl, ⟨sq0, sq1⟩, hst1, hkp1⟩
  have HK1 := Lib.hid (Keeps.trans (Keeps.of_below (ext_alloc (Below.refl _ w))) hkp1)
  have HS1 := Lib.hid hst1
  have z1 : w.heap.size + 1 ≤ w1.heap.size := by have := hkp1.size; simp at this; omega
  clear hst1 hkp1
  go_wp2_with fail
  refine (pick3 S (k + 1) _ 0 100 4294967096 (fun r => 0 ≤ r ∧ r ≤ 4294967096) _ (HS1.out.below (ext_alloc (Below.refl _ _))) (by omega) (by simp) (by simp; omega) (by go_simp) (by go_simp) (by go_simp) (by omega) (by omega) (by omega)).mono ?_
  rintro e w2 ⟨T0, rfl, ⟨T00, T01⟩, hst2, hkp2⟩
  have HK2 := Lib.hid (HK1.out.trans (Keeps.trans (Keeps.of_below (ext_alloc (Below.refl _ w1))) hkp2))
  have HS2 := Lib.hid hst2
  have z2 : w1.heap.size + 1 ≤ w2.heap.size := by have := hkp2.size; simp at this; omega
  clear hst2 hkp2
  go_wp2_with fail
  refine (range_any S (k + 2) 0 50 _ HS2.out (by omega) (by omega) (by omega) (by omega)).mono ?_
  rintro e w3 ⟨at0, rfl, a00, a01, hst3, hkp3⟩
  have HK3 := Lib.hid (HK2.out.trans hkp3)
  have HS3 := Lib.hid hst3
  have z3 : w2.heap.size ≤ w3.heap.size := hkp3.size
  clear hst3 hkp3
  go_wp2_with fail
  refine (pick3 S (k + 3) _ 8 80 160 (fun r => 8 ≤ r ∧ r ≤ 160) _ (HS3.out.below (ext_alloc (Below.refl _ _))) (by omega) (by simp) (by simp; omega) (by go_simp) (by go_simp) (by go_simp) (by omega) (by omega) (by omega)).mono ?_
  rintro e w4 ⟨lo, rfl, ⟨lo0, lo1⟩, hst4, hkp4⟩
  have HK4 := Lib.hid (HK3.out.trans (Keeps.trans (Keeps.of_below (ext_alloc (Below.refl _ w3))) hkp4))
  have HS4 := Lib.hid hst4
  have z4 : w3.heap.size + 1 ≤ w4.heap.size := by have := hkp4.size; simp at this; omega
  clear hst4 hkp4
  go_wp2_with fail
  refine (range_any S (k + 4) 0 most _ HS4.out (by omega) (by omega) (by omega) (by omega)).mono ?_
  rintro e w5 ⟨m, rfl, m0, m1, hst5, hkp5⟩
  obtain ⟨m, rfl⟩ := Int.eq_ofNat_of_zero_le m0
  have HK5 := Lib.hid (HK4.out.trans hkp5)
  have HS5 := Lib.hid hst5
  have z5 : w4.heap.size ≤ w5.heap.size := hkp5.size
  have HW5 : Hid (WSt w5 S (.slice none 0 0) (.slice none 0 0) [] []) := ⟨by omega, World.ownsRow_nil _ _ _ _, World.ownsRow_nil _ _ _ _, (fun b e => by cases e), fun j hj => by simp at hj⟩
  clear hst5 hkp5
  go_wp2_with fail
  go_loopw [5, 6, 7, 8, 26] (fun va s7 t7 a7 it wr => ∃ (i : Nat) (l : List Arr) (sc tc ac : Int), i ≤ m ∧ it = .int .i64 i ∧ s7 = .int .i64 sc ∧ t7 = .int .i64 tc ∧ a7 = .int .i64 ac ∧ 0 ≤ sc ∧ sc ≤ 65533 + i ∧ 0 ≤ tc ∧ tc ≤ 4294967096 + 160 * (i : Int) ∧ Hid (WSt wr S va (.slice none 0 0) l []) ∧ Hid (RaOk i ac l) ∧ Hid (StreamOk wr S (k + 5 + 20 * i)) ∧ Hid (Keeps S w wr) ∧ Hid (∀ b, va.ownBlock = some b → w.heap.size ≤ b)) (fun _ _ _ _ it _ => m - (intOf it).toNat)
  case atStart => exact ⟨0, [], sq, T0, at0, Nat.zero_le _, rfl, rfl, rfl, rfl, by omega, by omega, by omega, by omega, HW5, RaOk.nil a00 (by omega), HS5, HK5, (fun b e => by cases e)⟩
  case round =>
    obtain ⟨i, l, sc, tc, ac, hl, rfl, rfl, rfl, rfl, sc0, sc1, tc0, tc1, HW, HOK, HS, HK, HGW⟩ := hrel
    by_cases hlt : i < m
    · have zW := HW.out.lt
      obtain ⟨va, rfl⟩ : ∃ va : Value, va = u5 := ⟨_, rfl⟩
      obtain ⟨wo, rfl⟩ : ∃ wo : World, wo = wr := ⟨_, rfl⟩
      go_wp2_with fail
      generalize hsc : sc % 65536 = sp
      generalize htc : tc % 4294967296 = tp
      have sp0 : 0 ≤ sp ∧ sp ≤ 65535 := by omega
      have tp0 : 0 ≤ tp ∧ tp ≤ 4294967295 := by omega
      clear hsc htc
      refine (pick3 S (k + 5 + 20 * i) _ 0 3 8 (fun r => 0 ≤ r ∧ r ≤ 8) _ (HS.out.below (ext_alloc (ext_alloc (Below.refl _ _)))) (by omega) (by simp) (by simp; omega) (by go_simp) (by go_simp) (by go_simp) (by omega) (by omega) (by omega)).mono ?_
      rintro e w6 ⟨mq, rfl, ⟨mq0, mq1⟩, hst6, hkp6⟩
      obtain ⟨mq, rfl⟩ := Int.eq_ofNat_of_zero_le mq0
      obtain ⟨K0, hK0⟩ : ∃ K0, K0 = k + 5 + 20 * i + 1 := ⟨_, rfl⟩
      have hK1 : K0 ≤ 1004000 := by omega
      rw [← hK0] at hst6
      have HK0 := Lib.hid hK0
      have z6 : wo.heap.size + 2 ≤ w6.heap.size := by have := hkp6.size; simp at this; omega
      have HP : Hid (PkAt S K0 wo.heap.size wo w6 0 sp tp 7 false (.slice none 0 0) 0 []) := by
        have cc := fun j => hkp6.cell (p := ⟨wo.heap.size, j, none⟩) (by simp; omega) (by show wo.heap.size ≠ S; omega)
        refine ⟨(cc 0).trans (by go_simp), (cc 1).trans (by go_simp), (cc 2).trans (by go_simp), (cc 3).trans (by go_simp), (cc 4).trans (by go_simp), (cc 5).trans (by go_simp), fun j => (hkp6.frozen (p := ⟨wo.heap.size, j, none⟩) (by simp; omega) (by show wo.heap.size ≠ S; omega)).trans (by go_simp), World.ownsRow_nil _ _ _ _, (fun x hx => by cases hx), (Keeps.of_below (ext_alloc (ext_alloc (Below.refl _ _)))).trans hkp6, hst6, by omega⟩
      clear hst6 hkp6 hK0
      go_wp2_with fail
      go_loopw [36] (fun it wr => ∃ (q : Nat) (v : Value) (xs : List Int), q ≤ mq ∧ it = .int .i64 q ∧ Hid (PkAt S K0 wo.heap.size wo wr 0 sp tp 7 false v q xs)) (fun it _ => mq - (intOf it).toNat)
      case atStart => exact ⟨0, _, [], Nat.zero_le _, rfl, HP⟩
      case round =>
        obtain ⟨q, v, xs, hq, rfl, HT⟩ := hrel
        by_cases hlq : q < mq
        · have c5 := HT.out.c5
          have zT := HT.out.size
          have n5 : q + 1 ≤ maxLen := by unfold maxLen; omega
          have N5 := Lib.hid n5
          clear n5
          go_wp2_with fail
          refine region_gen S (K0 + q) 6 [.val (· = .pointer (some ⟨wo.heap.size, 5, none⟩)), .val (v = ·), .val (· = .pointer (some ⟨S, 0, none⟩)), .val (fun x => ∃ r : Int, x = .int .i64 r ∧ (0 ≤ r ∧ r ≤ 255)), .val (fun x => ∃ r : Int, x = .int .u8 r ∧ 0 ≤ r ∧ r ≤ 255), .arr 1 (fun vs => ∃ r : Int, (0 ≤ r ∧ r ≤ 255) ∧ vs = [.int .u8 r])] [3] [some 38, some 39, some 40, some 41, some 42, some 43] (by kernel_rfl) (by kernel_rfl) (by kernel_rfl) (by kernel_rfl) rfl (by kernel_rfl) HT.out.stream ⟨?_, ?_, ?_, ?_, ?_, ?_, trivial⟩ ?_
          · intro a w' c hk hst hc hfr hdp K hK
            have f : a.tmps[10]?.getD undef = .pointer (some ⟨wo.heap.size, 0, none⟩) := slot_of (hfr 10 (by kernel_rfl))
            refine gen_pure (v := .pointer (some ⟨wo.heap.size, 5, none⟩)) ?_ (hK _ _ rfl (Keeps.refl _ _) hst)
            go_simp
          · intro a w' c hk hst hc hfr hdp K hK
            have d : a.tmps[38]?.getD undef = .pointer (some ⟨wo.heap.size, 5, none⟩) := slot_of (hdp 0 38 _ (by kernel_rfl) (by kernel_rfl) rfl)
            have cl : w'.cell? ⟨wo.heap.size, 5, none⟩ = some (v) := (hk.cell (p := ⟨wo.heap.size, 5, none⟩) (by show wo.heap.size < wr.heap.size; omega) (by show wo.heap.size ≠ S; omega)).trans c5
            refine gen_pure (v := v) ?_ (hK _ _ rfl (Keeps.refl _ _) hst)
            go_simp
          · intro a w' c hk hst hc hfr hdp K hK
            have f : a.tmps[0]?.getD undef = .pointer (some ⟨S, 0, none⟩) := slot_of (hfr 0 (by kernel_rfl))
            refine gen_pure (v := .pointer (some ⟨S, 0, none⟩)) ?_ (hK _ _ rfl (Keeps.refl _ _) hst)
            go_simp
          · intro a w' c hk hst hc hfr hdp K hK
            have d1 : a.tmps[40]?.getD undef = .pointer (some ⟨S, 0, none⟩) := slot_of (hdp 2 40 _ (by kernel_rfl) (by kernel_rfl) rfl)
            have hc2 : c + 1 ≤ 1 := hc
            refine gen_call 8 #[.pointer (some ⟨S, 0, none⟩), .int .i64 (0), .int .i64 (255)] ?_ (range_any S _ (0) (255) w' hst (by omega) (by omega) (by omega) (by omega)) ?_
            · clear hK; go_simp
            rintro e w'' ⟨r, rfl, r0, r1, hst2, hkp⟩
            exact ⟨_, rfl, hK _ _ ⟨r, rfl, r0, r1⟩ hkp hst2⟩
          · intro a w' c hk hst hc hfr hdp K hK
            obtain ⟨r, g3, r0, r1⟩ := hdp 3 41 _ (by kernel_rfl) (by kernel_rfl) rfl
            have s3 := slot_of g3
            have hwr : IntKind.u8.wrap r = r := by rw [IntKind.wrap_u8]; omega
            refine gen_pure (v := .int .u8 r) ?_ (hK _ _ ⟨r, rfl, r0, r1⟩ (Keeps.refl _ _) hst)
            clear g3 hK
            go_simp
          · intro a w' c hk hst hc hfr hdp K hK
            obtain ⟨r, g3, r0, r1⟩ := hdp 4 42 _ (by kernel_rfl) (by kernel_rfl) rfl
            have s3 := slot_of g3
            refine gen_alloc (p := fun vs => ∃ r : Int, (0 ≤ r ∧ r ≤ 255) ∧ vs = [.int .u8 r]) #[.int .u8 r] 5 ?_ ⟨r, ⟨r0, r1⟩, rfl⟩ hst hK
            clear g3 hK
            go_simp
          intro w8 hk8 hst8
          rintro _ rfl _ rfl _ rfl _ - _ - _ ⟨gb, _, rfl, ⟨y, hy, rfl⟩, hgb, hgl, hgc⟩
          simp only [ForVals, Act.put, List.setIfInBounds_toArray, List.set_cons_zero, List.set_cons_succ, List.drop_succ_cons, List.drop_zero]
          have hkd : Keeps S wr w8 := Keeps.trans (by exact Keeps.of_below (ext_drew (Below.refl _ _))) hk8
          obtain ⟨⟨d0, d1, d2, d3, d4, d5⟩, dfro, down, dkp, dsz⟩ := HT.out.kept zW hkd
          have HST8 := Lib.hid hst8
          have HD := Lib.hid (And.intro d0 (And.intro d1 (And.intro d2 (And.intro d3 (And.intro d4 dfro)))))
          have HDK := Lib.hid dkp
          have f5 := dfro 5
          clear hst8 hk8 hkd d0 d1 d2 d3 d4 dfro dkp
          refine wpList_append_own w8 rfl (.tmp 39) (.tmp 43) 26 rfl (wo.heap.size + 1) 5 i0 (.int .u8 0) 1 1 Tryd.underlying26 hi hz0 hz1 hz2 rfl (by decide) v q (xs.map (Value.int .u8)) rfl down ⟨gb, 0, none⟩ 1 1 [.int .u8 y] rfl rfl (fun j u hj => by rw [addr_add0]; exact hgc j u hj) (by simp [Value.oneCell']) N5.out (by omega) (by omega) ?_
          intro v9 w9 hown9 hgr9 _
          obtain ⟨ga, gcap, rfl⟩ := own_slice hown9
          have ag : v.ownBlock ≠ some wo.heap.size := fun e => by have := (down.lt _ e).1; omega
          have c9 : w9.cell? ⟨wo.heap.size, 5, none⟩ = some v := (grown_cell hgr9 (by omega) ag).trans d5
          have f9 : w9.frozen? ⟨wo.heap.size, 5, none⟩ = false := (grown_frozen hgr9 (by omega) ag).trans f5
          have HN : Hid (PkAt S K0 wo.heap.size wo (w9.setCell ⟨wo.heap.size, 5, none⟩ (.slice ga (q + 1) gcap)) 0 sp tp 7 false (.slice ga (q + 1) gcap) (q + 1) (xs ++ [y])) := by
            obtain ⟨d0, d1, d2, d3, d4, dfro⟩ := HD.out
            have cc := fun j => (World.cell?_setCell_other w9 ⟨wo.heap.size, 5, none⟩ ⟨wo.heap.size, j, none⟩ (.slice ga (q + 1) gcap))
            have gg := fun j => grown_cell (o := j) hgr9 dsz ag
            refine ⟨(cc 0 (by simp)).trans ((gg 0).trans d0), (cc 1 (by simp)).trans ((gg 1).trans d1), (cc 2 (by simp)).trans ((gg 2).trans d2), (cc 3 (by simp)).trans ((gg 3).trans d3), (cc 4 (by simp)).trans ((gg 4).trans d4), World.cell?_setCell_same _ _ _ c9, fun j => by rw [World.frozen?_setCell]; exact (grown_frozen hgr9 dsz ag).trans (dfro j), ?_, ?_, ?_, ?_, ?_⟩
            · rw [List.map_append]; exact ownsRow_setCell_below hown9 (by show wo.heap.size < _; omega) _
            · intro x hx
              rcases List.mem_append.1 hx with hx | hx
              · exact HT.out.bytes x hx
              · simp at hx; omega
            · exact (HDK.out.grown0 hgr9 (fun b e => by have := (down.lt b e).1; omega)).setCell_new (by simp) _
            · exact HST8.out.upto ((((Below.refl (S + 1) w8).grown hgr9 (by omega) (fun b e => by have := (down.lt b e).1; omega))).setCell (by show S + 1 ≤ wo.heap.size; omega) _)
            · have := hgr9.size; simp; omega
          clear hown9 hgr9 HD HDK HST8 hgc down d5 f5
          go_wp2_with fail
          go_roundw
          case rel => exact ⟨q + 1, _, xs ++ [y], by omega, by go_num, HN⟩
          case measure => simp [intOf]; omega
        · obtain rfl : q = mq := by omega
          obtain ⟨av, cp, rfl, hrow, hat⟩ := IRow.of_own_at HT.out.own
          have HROW := Lib.hid hrow
          have HAT := Lib.hid hat
          have HNIL := Lib.hid (fun h => own_nil HT.out.own h)
          have zT := HT.out.size
          clear hrow hat
          go_wp2_with fail
          refine (pick5 S (K0 + q) _ 0 1 (lo / 8) (lo / 8) 25 (fun r => 0 ≤ r ∧ r ≤ 25) _ (HT.out.stream.below (ext_alloc (Below.refl _ _))) (by omega) (by simp) (by simp; omega) (by go_simp) (by go_simp) (by go_simp) (by go_simp) (by go_simp) (by omega) (by omega) (by omega) (by omega) (by omega)).mono ?_
          rintro e w7 ⟨dl, rfl, ⟨dl0, dl1⟩, hst7, hkp7⟩
          have hk7 := (Keeps.of_below (S := S) (ext_alloc (o := .cells #[.int .i64 0, .int .i64 1, .int .i64 (lo / 8), .int .i64 (lo / 8), .int .i64 25] 3) (Below.refl _ wr))).trans hkp7
          have cc := fun j => hk7.cell (p := ⟨wo.heap.size, j, none⟩) zT (by show wo.heap.size ≠ S; omega)
          have c0 := (cc 0).trans HT.out.c0
          have c1 := (cc 1).trans HT.out.c1
          have c2 := (cc 2).trans HT.out.c2
          have c3 := (cc 3).trans HT.out.c3
          have c4 := (cc 4).trans HT.out.c4
          have c5 := (cc 5).trans HT.out.c5
          have hk70 := HT.out.keeps.trans hk7
          have HS7 := Lib.hid hst7
          have HW7 := Lib.hid (HW.out.keeps hk70)
          have HK7 := Lib.hid (HK.out.trans hk70)
          have z7 : wo.heap.size < w7.heap.size := Nat.lt_of_lt_of_le zT hk7.size
          have ac0 := HOK.out.m0
          have ac1 := HOK.out.m1
          have HOK7 := Lib.hid (HOK.out.later dl0 dl1)
          have HX7 : Hid (PayAt w7 S va (.slice none 0 0) ⟨ac + dl, ⟨0, sp, tp, 7, false, xs⟩, av, q, cp⟩) := by
            have hI := HROW.out.keeps hk7 (fun b off e => by have := HAT.out b off e; omega)
            refine ⟨hI, (fun e => (HNIL.out e).1), fun p e => ?_⟩
            obtain ⟨o1, o2, o3⟩ := own_addr HT.out.own p e
            refine ⟨o1, by omega, Nat.lt_of_lt_of_le o3 hk7.size, fun e => ?_, (fun e => by cases e)⟩
            have := (HW.out.rows.lt _ e).2
            omega
          have HPK : Hid (PktOk ⟨0, sp, tp, 7, false, xs⟩) := ⟨by show (0 : Int) ≤ 0; omega, by show (0 : Int) ≤ 127; omega, sp0.1, sp0.2, tp0.1, tp0.2, by show (0 : Int) ≤ 7; omega, by show (7 : Int) ≤ 4294967295; omega, HT.out.bytes, by have := HROW.out.1; show xs.length ≤ 1000; omega⟩
          clear hst7 hkp7 hk7 hk70 cc
          go_wp2_with fail
          refine (flip_any S _ 5 _ HS7.out (by omega) (by omega) (by omega)).mono ?_
          rintro e w8 ⟨b5, rfl, hst8, hkp8⟩
          have cc := fun j => hkp8.cell (p := ⟨wo.heap.size, j, none⟩) z7 (by show wo.heap.size ≠ S; omega)
          replace c0 := (cc 0).trans c0
          replace c1 := (cc 1).trans c1
          replace c2 := (cc 2).trans c2
          replace c3 := (cc 3).trans c3
          replace c4 := (cc 4).trans c4
          replace c5 := (cc 5).trans c5
          have HS8 := Lib.hid hst8
          have HW8 := Lib.hid (HW7.out.keeps hkp8)
          have HK8 := Lib.hid (HK7.out.trans hkp8)
          have HX8 := Lib.hid (HX7.out.keeps hkp8)
          have z8 : wo.heap.size < w8.heap.size := Nat.lt_of_lt_of_le z7 hkp8.size
          obtain ⟨aa, acp, hva⟩ := own_slice HW8.out.rows
          subst hva
          have hfew := HOK.out.few
          have hl200 : l.length ≤ 200 := by omega
          have nm : Hid (l.length + 1 ≤ maxLen) := by show _ ≤ _; unfold maxLen; omega
          clear cc hst8 hkp8 HS7 HW7 HK7 HX7
          cases b5 with
          | true =>
            by_cases hl0 : l.length = 0
            · have hd0 : decide (0 < l.length) = false := decide_eq_false (by omega)
              have HL0 := Lib.hid hl0
              clear hl0
              go_wp2_with fail
              go_roundw
              case rel => exact ⟨i + 1, l, sc + 1, tc + lo, ac + dl, hlt, by go_num, rfl, rfl, rfl, by omega, by omega, by omega, by omega, HW8.out, HOK7.out, (HS8.out).mono (by have := HK0.out; omega), HK8.out, HGW.out⟩
              case measure => simp [intOf]; omega
            · have hd0 : 0 < l.length := by omega
              obtain ⟨g8, gc8, hg8⟩ := own_some HW8.out.rows hd0
              injection hg8 with e1 e2 e3
              subst e1
              clear e2 e3 hl0
              have HBW : Hid (∀ b, (Value.slice (some ⟨g8, 0, none⟩) l.length acp).ownBlock = some b → w.heap.size ≤ b) := fun b e => HGW.out b e
              go_wp2_with fail
              refine (flip_any S _ 8 _ HS8.out (by have := HK0.out; omega) (by omega) (by omega)).mono ?_
              rintro e w9 ⟨b8, rfl, hst9, hkp9⟩
              have HW9 := Lib.hid (HW8.out.keeps hkp9)
              have HK9 := Lib.hid (HK8.out.trans hkp9)
              have HS9 := Lib.hid hst9
              clear hst9 hkp9
              cases b8 with
              | false =>
                go_wp2_with fail
                go_roundw
                case rel => exact ⟨i + 1, l, sc + 1, tc + lo, ac + dl, hlt, by go_num, rfl, rfl, rfl, by omega, by omega, by omega, by omega, HW9.out, HOK7.out, (HS9.out).mono (by have := HK0.out; omega), HK9.out, HBW.out⟩
                case measure => simp [intOf]; omega
              | true =>
                obtain ⟨hc9, _⟩ := HW9.out.cells (l.length - 1) (by omega)
                obtain ⟨p0, p1, p2, p3, p4, p5, p6⟩ := arr_cells hc9
                have HPY := Lib.hid (HW9.out.pays (l.length - 1) (by omega))
                have HPO := Lib.hid (HOK7.out.each (l.length - 1) (by omega))
                have zg := (HW9.out.rows.lt g8 rfl).2
                have zS9 := HW9.out.lt
                generalize (l).getD (l.length - 1) noArr = y at p0 p1 p2 p3 p4 p5 p6 HPY HPO
                have kq : ((l.length : Int) - 1).toNat = l.length - 1 := by omega
                have n10 : Hid (l.length + 1 ≤ maxLen) := by show _ ≤ _; unfold maxLen; omega
                have HWA := Lib.hid (HW9.out.keeps (Keeps.of_below (ext_alloc (o := .cells #[.int .i64 (ac + dl), .int .i64 y.p.type, .int .i64 y.p.seq, .int .i64 y.p.time, .int .i64 y.p.src, .bool y.p.mark, .slice y.pa y.pn y.pc] 33) (Below.refl _ w9))))
                have HRW := Lib.hid (own_len HWA.out.rows (rfl : l.length = l.length))
                clear hc9
                go_wp2_with (at_builtin; refine wpList_append_own_at _ rfl (.tmp 114) (.tmp 124) 27 rfl (S + 1) 33 i1 _ 7 72 Tryd.underlying27 hi1 hy0 hy1 hy2 rfl (by omega) _ (l.length) (flatA (l)) rfl HRW.out ⟨w9.heap.size, 0, none⟩ 1 1 [.int .i64 (ac + dl), .int .i64 y.p.type, .int .i64 y.p.seq, .int .i64 y.p.time, .int .i64 y.p.src, .bool y.p.mark, .slice y.pa y.pn y.pc] rfl rfl (news_alloc _ _ _) (by simp [Value.oneCell']) n10.out (by omega) (by simp; omega) ?_; intro v10 w10 hown10 hgr10 _ hloc10)
                have hX10 : PayAt (w9.alloc (.cells #[.int .i64 (ac + dl), .int .i64 y.p.type, .int .i64 y.p.seq, .int .i64 y.p.time, .int .i64 y.p.src, .bool y.p.mark, .slice y.pa y.pn y.pc] 33)) S (.slice (some ⟨g8, 0, none⟩) (l.length) acp) (.slice none 0 0) (⟨ac + dl, y.p, y.pa, y.pn, y.pc⟩ : Arr) := (HPY.out.keeps (Keeps.of_below (ext_alloc (Below.refl _ w9)))).mix ⟨rfl, rfl, rfl⟩
                have hW10 := HWA.out.more hX10 (own_len hown10 (by rw [(rfl : l.length = l.length)])) hgr10 hloc10
                have hOK10 := HOK7.out.more (x := ⟨ac + dl, y.p, y.pa, y.pn, y.pc⟩) (by rw [(rfl : l.length = l.length)]; omega) ⟨HPO.out.1, HPO.out.2.1⟩ rfl
                have hS10 := (HS9.out.below (ext_alloc (o := .cells #[.int .i64 (ac + dl), .int .i64 y.p.type, .int .i64 y.p.seq, .int .i64 y.p.time, .int .i64 y.p.src, .bool y.p.mark, .slice y.pa y.pn y.pc] 33) (Below.refl _ w9))).upto ((Below.refl (S + 1) _).grown hgr10 (by have := HWA.out.lt; omega) (fun b e => (HWA.out.rows.lt b e).1))
                have hK10 := (HK9.out.ext (ext_alloc (o := .cells #[.int .i64 (ac + dl), .int .i64 y.p.type, .int .i64 y.p.seq, .int .i64 y.p.time, .int .i64 y.p.src, .bool y.p.mark, .slice y.pa y.pn y.pc] 33) (Below.refl _ w9))).grown0 hgr10 (fun b e => HBW.out b e)
                have hG10 : ∀ b, v10.ownBlock = some b → w.heap.size ≤ b := fun b e => by
                  rcases hloc10 with e1 | e1
                  · rw [e1] at e; exact HBW.out b e
                  · rw [e1] at e; injection e with e; have := HK9.out.size; simp at e; omega
                go_roundw
                case rel => exact ⟨i + 1, _, sc + 1, tc + lo, ac + dl, hlt, by go_num, rfl, rfl, rfl, by omega, by omega, by omega, by omega, hW10, hOK10, (hS10).mono (by have := HK0.out; omega), hK10, hG10⟩
                case measure => simp [intOf]; omega
          | false =>
            by_cases hl0 : l.length = 0
            · have hd0 : decide (0 < l.length) = false := decide_eq_false (by omega)
              have HL0 := Lib.hid hl0
              clear hl0
              have HWB := Lib.hid (HW8.out.keeps (Keeps.of_below (ext_alloc (o := .cells #[.int .i64 (ac + dl), .int .i64 0, .int .i64 sp, .int .i64 tp, .int .i64 7, .bool false, .slice av q cp] 33) (Below.refl _ w8))))
              have HRB := Lib.hid HWB.out.rows
              have zSa := HW8.out.lt
              go_wp2_with (at_builtin; refine wpList_append_own_at _ rfl (.tmp 61) (.tmp 65) 27 rfl (S + 1) 33 i1 _ 7 72 Tryd.underlying27 hi1 hy0 hy1 hy2 rfl (by omega) _ l.length (flatA l) rfl HRB.out ⟨w8.heap.size, 0, none⟩ 1 1 [.int .i64 (ac + dl), .int .i64 0, .int .i64 sp, .int .i64 tp, .int .i64 7, .bool false, .slice av q cp] rfl rfl (news_alloc _ _ _) (by simp [Value.oneCell']) nm.out (by omega) (by simp; omega) ?_; intro v9 wa hown9 hgr9 _ hloc9; obtain ⟨ga, gca, rfl⟩ := own_some hown9 (Nat.succ_pos _))
              have hXa := HX8.out.keeps (Keeps.of_below (ext_alloc (o := .cells #[.int .i64 (ac + dl), .int .i64 0, .int .i64 sp, .int .i64 tp, .int .i64 7, .bool false, .slice av q cp] 33) (Below.refl _ w8)))
              have HWa := Lib.hid (HWB.out.more hXa hown9 hgr9 hloc9)
              have HOKa := Lib.hid (HOK7.out.more (x := ⟨ac + dl, ⟨0, sp, tp, 7, false, xs⟩, av, q, cp⟩) (by omega) ⟨HPK.out, rfl⟩ rfl)
              have HSa := Lib.hid ((HS8.out.below (ext_alloc (o := .cells #[.int .i64 (ac + dl), .int .i64 0, .int .i64 sp, .int .i64 tp, .int .i64 7, .bool false, .slice av q cp] 33) (Below.refl _ w8))).upto ((Below.refl (S + 1) _).grown hgr9 (by have := HWB.out.lt; omega) (fun b e => (HWB.out.rows.lt b e).1)))
              have HKa := Lib.hid ((HK8.out.ext (ext_alloc (o := .cells #[.int .i64 (ac + dl), .int .i64 0, .int .i64 sp, .int .i64 tp, .int .i64 7, .bool false, .slice av q cp] 33) (Below.refl _ w8))).grown0 hgr9 (fun b e => HGW.out b e))
              have HBW : Hid (∀ b, (Value.slice (some ⟨ga, 0, none⟩) (l.length + 1) gca).ownBlock = some b → w.heap.size ≤ b) := fun b e => by
                rcases hloc9 with e1 | e1
                · rw [e1] at e; exact HGW.out b e
                · rw [e1] at e; injection e with e; have := HK8.out.size; simp at e; omega
              have HL2 : Hid ((l ++ [(⟨ac + dl, ⟨0, sp, tp, 7, false, xs⟩, av, q, cp⟩ : Arr)]).length = l.length + 1) := by show _ = _; simp
              generalize l ++ [(⟨ac + dl, ⟨0, sp, tp, 7, false, xs⟩, av, q, cp⟩ : Arr)] = L2 at HWa HOKa HL2
              clear hown9 hgr9 hloc9 hXa c0 c1 c2 c3 c4 c5
              go_wp2_with fail
              refine (flip_any S _ 8 _ HSa.out (by have := HK0.out; omega) (by omega) (by omega)).mono ?_
              rintro e w9 ⟨b8, rfl, hst9, hkp9⟩
              have HW9 := Lib.hid (HWa.out.keeps hkp9)
              have HK9 := Lib.hid (HKa.out.trans hkp9)
              have HS9 := Lib.hid hst9
              clear hst9 hkp9
              cases b8 with
              | false =>
                go_wp2_with fail
                go_roundw
                case rel => exact ⟨i + 1, L2, sc + 1, tc + lo, ac + dl, hlt, by go_num, rfl, rfl, rfl, by omega, by omega, by omega, by omega, HW9.out, HOKa.out, (HS9.out).mono (by have := HK0.out; omega), HK9.out, HBW.out⟩
                case measure => simp [intOf]; omega
              | true =>
                obtain ⟨hc9, _⟩ := HW9.out.cells (l.length) (Nat.lt_of_lt_of_eq (Nat.lt_succ_self _) HL2.out.symm)
                obtain ⟨p0, p1, p2, p3, p4, p5, p6⟩ := arr_cells hc9
                have HPY := Lib.hid (HW9.out.pays (l.length) (Nat.lt_of_lt_of_eq (Nat.lt_succ_self _) HL2.out.symm))
                have HPO := Lib.hid (HOKa.out.each (l.length) (Nat.lt_of_lt_of_eq (Nat.lt_succ_self _) HL2.out.symm))
                have zg := (HW9.out.rows.lt ga rfl).2
                have zS9 := HW9.out.lt
                generalize (L2).getD (l.length) noArr = y at p0 p1 p2 p3 p4 p5 p6 HPY HPO
                have kq : ((l.length : Int) - 1).toNat = l.length - 1 := by omega
                have n10 : Hid (l.length + 1 + 1 ≤ maxLen) := by show _ ≤ _; unfold maxLen; omega
                have HWA := Lib.hid (HW9.out.keeps (Keeps.of_below (ext_alloc (o := .cells #[.int .i64 (ac + dl), .int .i64 y.p.type, .int .i64 y.p.seq, .int .i64 y.p.time, .int .i64 y.p.src, .bool y.p.mark, .slice y.pa y.pn y.pc] 33) (Below.refl _ w9))))
                have HRW := Lib.hid (own_len HWA.out.rows HL2.out)
                clear hc9
                go_wp2_with (at_builtin; refine wpList_append_own_at _ rfl (.tmp 114) (.tmp 124) 27 rfl (S + 1) 33 i1 _ 7 72 Tryd.underlying27 hi1 hy0 hy1 hy2 rfl (by omega) _ (l.length + 1) (flatA (L2)) rfl HRW.out ⟨w9.heap.size, 0, none⟩ 1 1 [.int .i64 (ac + dl), .int .i64 y.p.type, .int .i64 y.p.seq, .int .i64 y.p.time, .int .i64 y.p.src, .bool y.p.mark, .slice y.pa y.pn y.pc] rfl rfl (news_alloc _ _ _) (by simp [Value.oneCell']) n10.out (by omega) (by simp; omega) ?_; intro v10 w10 hown10 hgr10 _ hloc10)
                have hX10 : PayAt (w9.alloc (.cells #[.int .i64 (ac + dl), .int .i64 y.p.type, .int .i64 y.p.seq, .int .i64 y.p.time, .int .i64 y.p.src, .bool y.p.mark, .slice y.pa y.pn y.pc] 33)) S (.slice (some ⟨ga, 0, none⟩) (l.length + 1) gca) (.slice none 0 0) (⟨ac + dl, y.p, y.pa, y.pn, y.pc⟩ : Arr) := (HPY.out.keeps (Keeps.of_below (ext_alloc (Below.refl _ w9)))).mix ⟨rfl, rfl, rfl⟩
                have hW10 := HWA.out.more hX10 (own_len hown10 (by rw [HL2.out])) hgr10 hloc10
                have hOK10 := HOKa.out.more (x := ⟨ac + dl, y.p, y.pa, y.pn, y.pc⟩) (by rw [HL2.out]; omega) ⟨HPO.out.1, HPO.out.2.1⟩ rfl
                have hS10 := (HS9.out.below (ext_alloc (o := .cells #[.int .i64 (ac + dl), .int .i64 y.p.type, .int .i64 y.p.seq, .int .i64 y.p.time, .int .i64 y.p.src, .bool y.p.mark, .slice y.pa y.pn y.pc] 33) (Below.refl _ w9))).upto ((Below.refl (S + 1) _).grown hgr10 (by have := HWA.out.lt; omega) (fun b e => (HWA.out.rows.lt b e).1))
                have hK10 := (HK9.out.ext (ext_alloc (o := .cells #[.int .i64 (ac + dl), .int .i64 y.p.type, .int .i64 y.p.seq, .int .i64 y.p.time, .int .i64 y.p.src, .bool y.p.mark, .slice y.pa y.pn y.pc] 33) (Below.refl _ w9))).grown0 hgr10 (fun b e => HBW.out b e)
                have hG10 : ∀ b, v10.ownBlock = some b → w.heap.size ≤ b := fun b e => by
                  rcases hloc10 with e1 | e1
                  · rw [e1] at e; exact HBW.out b e
                  · rw [e1] at e; injection e with e; have := HK9.out.size; simp at e; omega
                go_roundw
                case rel => exact ⟨i + 1, _, sc + 1, tc + lo, ac + dl, hlt, by go_num, rfl, rfl, rfl, by omega, by omega, by omega, by omega, hW10, hOK10, (hS10).mono (by have := HK0.out; omega), hK10, hG10⟩
                case measure => simp [intOf]; omega
            · have hd0 : 0 < l.length := by omega
              clear hl0
              go_wp2_with fail
              refine (flip_any S _ 5 _ HS8.out (by have := HK0.out; omega) (by omega) (by omega)).mono ?_
              rintro e wf ⟨b6, rfl, hstf, hkpf⟩
              have cc := fun j => hkpf.cell (p := ⟨wo.heap.size, j, none⟩) z8 (by show wo.heap.size ≠ S; omega)
              replace c0 := (cc 0).trans c0
              replace c1 := (cc 1).trans c1
              replace c2 := (cc 2).trans c2
              replace c3 := (cc 3).trans c3
              replace c4 := (cc 4).trans c4
              replace c5 := (cc 5).trans c5
              have HSf := Lib.hid hstf
              have HWf := Lib.hid (HW8.out.keeps hkpf)
              have HKf := Lib.hid (HK8.out.trans hkpf)
              have HXf := Lib.hid (HX8.out.keeps hkpf)
              have zf : wo.heap.size < wf.heap.size := Nat.lt_of_lt_of_le z8 hkpf.size
              clear cc hstf hkpf HS8 HW8 HK8 HX8
              cases b6 with
              | false =>
                have HWB := Lib.hid (HWf.out.keeps (Keeps.of_below (ext_alloc (o := .cells #[.int .i64 (ac + dl), .int .i64 0, .int .i64 sp, .int .i64 tp, .int .i64 7, .bool false, .slice av q cp] 33) (Below.refl _ wf))))
                have HRB := Lib.hid HWB.out.rows
                have zSa := HWf.out.lt
                go_wp2_with (at_builtin; refine wpList_append_own_at _ rfl (.tmp 61) (.tmp 65) 27 rfl (S + 1) 33 i1 _ 7 72 Tryd.underlying27 hi1 hy0 hy1 hy2 rfl (by omega) _ l.length (flatA l) rfl HRB.out ⟨wf.heap.size, 0, none⟩ 1 1 [.int .i64 (ac + dl), .int .i64 0, .int .i64 sp, .int .i64 tp, .int .i64 7, .bool false, .slice av q cp] rfl rfl (news_alloc _ _ _) (by simp [Value.oneCell']) nm.out (by omega) (by simp; omega) ?_; intro v9 wa hown9 hgr9 _ hloc9; obtain ⟨ga, gca, rfl⟩ := own_some hown9 (Nat.succ_pos _))
                have hXa := HXf.out.keeps (Keeps.of_below (ext_alloc (o := .cells #[.int .i64 (ac + dl), .int .i64 0, .int .i64 sp, .int .i64 tp, .int .i64 7, .bool false, .slice av q cp] 33) (Below.refl _ wf)))
                have HWa := Lib.hid (HWB.out.more hXa hown9 hgr9 hloc9)
                have HOKa := Lib.hid (HOK7.out.more (x := ⟨ac + dl, ⟨0, sp, tp, 7, false, xs⟩, av, q, cp⟩) (by omega) ⟨HPK.out, rfl⟩ rfl)
                have HSa := Lib.hid ((HSf.out.below (ext_alloc (o := .cells #[.int .i64 (ac + dl), .int .i64 0, .int .i64 sp, .int .i64 tp, .int .i64 7, .bool false, .slice av q cp] 33) (Below.refl _ wf))).upto ((Below.refl (S + 1) _).grown hgr9 (by have := HWB.out.lt; omega) (fun b e => (HWB.out.rows.lt b e).1)))
                have HKa := Lib.hid ((HKf.out.ext (ext_alloc (o := .cells #[.int .i64 (ac + dl), .int .i64 0, .int .i64 sp, .int .i64 tp, .int .i64 7, .bool false, .slice av q cp] 33) (Below.refl _ wf))).grown0 hgr9 (fun b e => HGW.out b e))
                have HBW : Hid (∀ b, (Value.slice (some ⟨ga, 0, none⟩) (l.length + 1) gca).ownBlock = some b → w.heap.size ≤ b) := fun b e => by
                  rcases hloc9 with e1 | e1
                  · rw [e1] at e; exact HGW.out b e
                  · rw [e1] at e; injection e with e; have := HKf.out.size; simp at e; omega
                have HL2 : Hid ((l ++ [(⟨ac + dl, ⟨0, sp, tp, 7, false, xs⟩, av, q, cp⟩ : Arr)]).length = l.length + 1) := by show _ = _; simp
                generalize l ++ [(⟨ac + dl, ⟨0, sp, tp, 7, false, xs⟩, av, q, cp⟩ : Arr)] = L2 at HWa HOKa HL2
                clear hown9 hgr9 hloc9 hXa c0 c1 c2 c3 c4 c5
                go_wp2_with fail
                refine (flip_any S _ 8 _ HSa.out (by have := HK0.out; omega) (by omega) (by omega)).mono ?_
                rintro e w9 ⟨b8, rfl, hst9, hkp9⟩
                have HW9 := Lib.hid (HWa.out.keeps hkp9)
                have HK9 := Lib.hid (HKa.out.trans hkp9)
                have HS9 := Lib.hid hst9
                clear hst9 hkp9
                cases b8 with
                | false =>
                  go_wp2_with fail
                  go_roundw
                  case rel => exact ⟨i + 1, L2, sc + 1, tc + lo, ac + dl, hlt, by go_num, rfl, rfl, rfl, by omega, by omega, by omega, by omega, HW9.out, HOKa.out, (HS9.out).mono (by have := HK0.out; omega), HK9.out, HBW.out⟩
                  case measure => simp [intOf]; omega
                | true =>
                  obtain ⟨hc9, _⟩ := HW9.out.cells (l.length) (Nat.lt_of_lt_of_eq (Nat.lt_succ_self _) HL2.out.symm)
                  obtain ⟨p0, p1, p2, p3, p4, p5, p6⟩ := arr_cells hc9
                  have HPY := Lib.hid (HW9.out.pays (l.length) (Nat.lt_of_lt_of_eq (Nat.lt_succ_self _) HL2.out.symm))
                  have HPO := Lib.hid (HOKa.out.each (l.length) (Nat.lt_of_lt_of_eq (Nat.lt_succ_self _) HL2.out.symm))
                  have zg := (HW9.out.rows.lt ga rfl).2
                  have zS9 := HW9.out.lt
                  generalize (L2).getD (l.length) noArr = y at p0 p1 p2 p3 p4 p5 p6 HPY HPO
                  have kq : ((l.length : Int) - 1).toNat = l.length - 1 := by omega
                  have n10 : Hid (l.length + 1 + 1 ≤ maxLen) := by show _ ≤ _; unfold maxLen; omega
                  have HWA := Lib.hid (HW9.out.keeps (Keeps.of_below (ext_alloc (o := .cells #[.int .i64 (ac + dl), .int .i64 y.p.type, .int .i64 y.p.seq, .int .i64 y.p.time, .int .i64 y.p.src, .bool y.p.mark, .slice y.pa y.pn y.pc] 33) (Below.refl _ w9))))
                  have HRW := Lib.hid (own_len HWA.out.rows HL2.out)
                  clear hc9
                  go_wp2_with (at_builtin; refine wpList_append_own_at _ rfl (.tmp 114) (.tmp 124) 27 rfl (S + 1) 33 i1 _ 7 72 Tryd.underlying27 hi1 hy0 hy1 hy2 rfl (by omega) _ (l.length + 1) (flatA (L2)) rfl HRW.out ⟨w9.heap.size, 0, none⟩ 1 1 [.int .i64 (ac + dl), .int .i64 y.p.type, .int .i64 y.p.seq, .int .i64 y.p.time, .int .i64 y.p.src, .bool y.p.mark, .slice y.pa y.pn y.pc] rfl rfl (news_alloc _ _ _) (by simp [Value.oneCell']) n10.out (by omega) (by simp; omega) ?_; intro v10 w10 hown10 hgr10 _ hloc10)
                  have hX10 : PayAt (w9.alloc (.cells #[.int .i64 (ac + dl), .int .i64 y.p.type, .int .i64 y.p.seq, .int .i64 y.p.time, .int .i64 y.p.src, .bool y.p.mark, .slice y.pa y.pn y.pc] 33)) S (.slice (some ⟨ga, 0, none⟩) (l.length + 1) gca) (.slice none 0 0) (⟨ac + dl, y.p, y.pa, y.pn, y.pc⟩ : Arr) := (HPY.out.keeps (Keeps.of_below (ext_alloc (Below.refl _ w9)))).mix ⟨rfl, rfl, rfl⟩
                  have hW10 := HWA.out.more hX10 (own_len hown10 (by rw [HL2.out])) hgr10 hloc10
                  have hOK10 := HOKa.out.more (x := ⟨ac + dl, y.p, y.pa, y.pn, y.pc⟩) (by rw [HL2.out]; omega) ⟨HPO.out.1, HPO.out.2.1⟩ rfl
                  have hS10 := (HS9.out.below (ext_alloc (o := .cells #[.int .i64 (ac + dl), .int .i64 y.p.type, .int .i64 y.p.seq, .int .i64 y.p.time, .int .i64 y.p.src, .bool y.p.mark, .slice y.pa y.pn y.pc] 33) (Below.refl _ w9))).upto ((Below.refl (S + 1) _).grown hgr10 (by have := HWA.out.lt; omega) (fun b e => (HWA.out.rows.lt b e).1))
                  have hK10 := (HK9.out.ext (ext_alloc (o := .cells #[.int .i64 (ac + dl), .int .i64 y.p.type, .int .i64 y.p.seq, .int .i64 y.p.time, .int .i64 y.p.src, .bool y.p.mark, .slice y.pa y.pn y.pc] 33) (Below.refl _ w9))).grown0 hgr10 (fun b e => HBW.out b e)
                  have hG10 : ∀ b, v10.ownBlock = some b → w.heap.size ≤ b := fun b e => by
                    rcases hloc10 with e1 | e1
                    · rw [e1] at e; exact HBW.out b e
                    · rw [e1] at e; injection e with e; have := HK9.out.size; simp at e; omega
                  go_roundw
                  case rel => exact ⟨i + 1, _, sc + 1, tc + lo, ac + dl, hlt, by go_num, rfl, rfl, rfl, by omega, by omega, by omega, by omega, hW10, hOK10, (hS10).mono (by have := HK0.out; omega), hK10, hG10⟩
                  case measure => simp [intOf]; omega
              | true =>
                have HWB := Lib.hid (HWf.out.keeps (Keeps.of_below (ext_alloc (o := .cells #[.int .i64 (ac + dl), .int .i64 0, .int .i64 sp, .int .i64 tp, .int .i64 7, .bool false, .slice av q cp] 33) (Below.refl _ wf))))
                have HRB := Lib.hid HWB.out.rows
                have zSa := HWf.out.lt
                go_wp2_with (at_builtin; refine wpList_append_own_at _ rfl (.tmp 78) (.tmp 82) 27 rfl (S + 1) 33 i1 _ 7 72 Tryd.underlying27 hi1 hy0 hy1 hy2 rfl (by omega) _ l.length (flatA l) rfl HRB.out ⟨wf.heap.size, 0, none⟩ 1 1 [.int .i64 (ac + dl), .int .i64 0, .int .i64 sp, .int .i64 tp, .int .i64 7, .bool false, .slice av q cp] rfl rfl (news_alloc _ _ _) (by simp [Value.oneCell']) nm.out (by omega) (by simp; omega) ?_; intro v9 wa hown9 hgr9 _ hloc9; obtain ⟨ga, gca, rfl⟩ := own_some hown9 (Nat.succ_pos _))
                have hXa := HXf.out.keeps (Keeps.of_below (ext_alloc (o := .cells #[.int .i64 (ac + dl), .int .i64 0, .int .i64 sp, .int .i64 tp, .int .i64 7, .bool false, .slice av q cp] 33) (Below.refl _ wf)))
                have HWa := Lib.hid (HWB.out.more hXa hown9 hgr9 hloc9)
                have HOKa := Lib.hid (HOK7.out.more (x := ⟨ac + dl, ⟨0, sp, tp, 7, false, xs⟩, av, q, cp⟩) (by omega) ⟨HPK.out, rfl⟩ rfl)
                have HSa := Lib.hid ((HSf.out.below (ext_alloc (o := .cells #[.int .i64 (ac + dl), .int .i64 0, .int .i64 sp, .int .i64 tp, .int .i64 7, .bool false, .slice av q cp] 33) (Below.refl _ wf))).upto ((Below.refl (S + 1) _).grown hgr9 (by have := HWB.out.lt; omega) (fun b e => (HWB.out.rows.lt b e).1)))
                have HKa := Lib.hid ((HKf.out.ext (ext_alloc (o := .cells #[.int .i64 (ac + dl), .int .i64 0, .int .i64 sp, .int .i64 tp, .int .i64 7, .bool false, .slice av q cp] 33) (Below.refl _ wf))).grown0 hgr9 (fun b e => HGW.out b e))
                have HBW : Hid (∀ b, (Value.slice (some ⟨ga, 0, none⟩) (l.length + 1) gca).ownBlock = some b → w.heap.size ≤ b) := fun b e => by
                  rcases hloc9 with e1 | e1
                  · rw [e1] at e; exact HGW.out b e
                  · rw [e1] at e; injection e with e; have := HKf.out.size; simp at e; omega
                have HL2 : Hid ((l ++ [(⟨ac + dl, ⟨0, sp, tp, 7, false, xs⟩, av, q, cp⟩ : Arr)]).length = l.length + 1) := by show _ = _; simp
                generalize l ++ [(⟨ac + dl, ⟨0, sp, tp, 7, false, xs⟩, av, q, cp⟩ : Arr)] = L2 at HWa HOKa HL2
                clear hown9 hgr9 hloc9 hXa c0 c1 c2 c3 c4 c5
                obtain ⟨hc9, hfro⟩ := HWa.out.cells l.length (Nat.lt_of_lt_of_eq (Nat.lt_succ_self _) HL2.out.symm)
                obtain ⟨hc8, _⟩ := HWa.out.cells (l.length - 1) (by rw [HL2.out]; omega)
                obtain ⟨p0, p1, p2, p3, p4, p5, p6⟩ := arr_cells hc9
                obtain ⟨o0, o1, o2, o3, o4, o5, o6⟩ := arr_cells hc8
                have zg := (HWa.out.rows.lt ga rfl).2
                have kq : ((l.length : Int) - 1).toNat = l.length - 1 := by omega
                have kr : 0 ≤ (l.length : Int) - 1 := by omega
                have ks : (l.length : Int) - 1 < (l.length : Int) + 1 := by omega
                have kt : (l.length : Int) < (l.length : Int) + 1 := by omega
                obtain ⟨y, hy⟩ : ∃ y, y = L2.getD l.length noArr := ⟨_, rfl⟩
                obtain ⟨z, hz⟩ : ∃ z, z = L2.getD (l.length - 1) noArr := ⟨_, rfl⟩
                rw [← hy] at p0 p1 p2 p3 p4 p5 p6
                rw [← hz] at o0 o1 o2 o3 o4 o5 o6
                have HY := Lib.hid hy
                have HZ := Lib.hid hz
                clear hc9 hc8 hy hz
                have hne : l.length ≠ l.length - 1 := by omega
                have hkp := two_keeps (g := ga) (w := wa) (l.length * 7) ((l.length - 1) * 7) z y
                have HWs := Lib.hid (HWa.out.swap l.length (l.length - 1) (Nat.lt_of_lt_of_eq (Nat.lt_succ_self _) HL2.out.symm) (by rw [HL2.out]; omega) hne)
                have HOKs := Lib.hid (HOKa.out.swap l.length (l.length - 1) (Nat.lt_of_lt_of_eq (Nat.lt_succ_self _) HL2.out.symm) (by rw [HL2.out]; omega) hne)
                have HL3 : Hid ((swapL L2 l.length (l.length - 1)).length = l.length + 1) := by show _ = _; rw [swapL_length, HL2.out]
                generalize swapL L2 l.length (l.length - 1) = L3 at HWs HOKs HL3
                replace HWs : Hid (WSt (sixW ga (sixW ga wa (l.length * 7) z) ((l.length - 1) * 7) y).drew S (.slice (some ⟨ga, 0, none⟩) (l.length + 1) gca) (.slice none 0 0) L3 []) := by
                  show WSt _ _ _ _ _ _
                  rw [HZ.out, HY.out]; exact HWs.out
                have HSs := Lib.hid (HSa.out.upto (hkp.below (B := S + 1) (by have := HWa.out.lt; omega) (by have := (HWa.out.rows.lt ga rfl).1; omega)))
                have HKs := Lib.hid (HKa.out.then_new hkp (HBW.out ga rfl))
                clear hkp hne
                go_region
                obtain ⟨wz, hwz⟩ : ∃ wz : World, wz = (sixW ga (sixW ga wa (l.length * 7) z) ((l.length - 1) * 7) y).drew := ⟨_, rfl⟩
                rw [← hwz] at HWs HSs HKs
                change Exit.inBlock 4 _ _ _ (sixW ga (sixW ga wa (l.length * 7) z) ((l.length - 1) * 7) y).drew
                rw [← hwz]
                clear hwz p0 p1 p2 p3 p4 p5 p6 o0 o1 o2 o3 o4 o5 o6 hfro
                go_wp2_with fail
                refine (flip_any S _ 8 _ HSs.out (by have := HK0.out; omega) (by omega) (by omega)).mono ?_
                rintro e w9 ⟨b8, rfl, hst9, hkp9⟩
                have HW9 := Lib.hid (HWs.out.keeps hkp9)
                have HK9 := Lib.hid (HKs.out.trans hkp9)
                have HS9 := Lib.hid hst9
                clear hst9 hkp9
                cases b8 with
                | false =>
                  go_wp2_with fail
                  go_roundw
                  case rel => exact ⟨i + 1, L3, sc + 1, tc + lo, ac + dl, hlt, by go_num, rfl, rfl, rfl, by omega, by omega, by omega, by omega, HW9.out, HOKs.out, (HS9.out).mono (by have := HK0.out; omega), HK9.out, HBW.out⟩
                  case measure => simp [intOf]; omega
                | true =>
                  obtain ⟨hc9, _⟩ := HW9.out.cells (l.length) (Nat.lt_of_lt_of_eq (Nat.lt_succ_self _) HL3.out.symm)
                  obtain ⟨p0, p1, p2, p3, p4, p5, p6⟩ := arr_cells hc9
                  have HPY := Lib.hid (HW9.out.pays (l.length) (Nat.lt_of_lt_of_eq (Nat.lt_succ_self _) HL3.out.symm))
                  have HPO := Lib.hid (HOKs.out.each (l.length) (Nat.lt_of_lt_of_eq (Nat.lt_succ_self _) HL3.out.symm))
                  have zg := (HW9.out.rows.lt ga rfl).2
                  have zS9 := HW9.out.lt
                  generalize (L3).getD (l.length) noArr = y at p0 p1 p2 p3 p4 p5 p6 HPY HPO
                  have kq : ((l.length : Int) - 1).toNat = l.length - 1 := by omega
                  have n10 : Hid (l.length + 1 + 1 ≤ maxLen) := by show _ ≤ _; unfold maxLen; omega
                  have HWA := Lib.hid (HW9.out.keeps (Keeps.of_below (ext_alloc (o := .cells #[.int .i64 (ac + dl), .int .i64 y.p.type, .int .i64 y.p.seq, .int .i64 y.p.time, .int .i64 y.p.src, .bool y.p.mark, .slice y.pa y.pn y.pc] 33) (Below.refl _ w9))))
                  have HRW := Lib.hid (own_len HWA.out.rows HL3.out)
                  clear hc9
                  go_wp2_with (at_builtin; refine wpList_append_own_at _ rfl (.tmp 114) (.tmp 124) 27 rfl (S + 1) 33 i1 _ 7 72 Tryd.underlying27 hi1 hy0 hy1 hy2 rfl (by omega) _ (l.length + 1) (flatA (L3)) rfl HRW.out ⟨w9.heap.size, 0, none⟩ 1 1 [.int .i64 (ac + dl), .int .i64 y.p.type, .int .i64 y.p.seq, .int .i64 y.p.time, .int .i64 y.p.src, .bool y.p.mark, .slice y.pa y.pn y.pc] rfl rfl (news_alloc _ _ _) (by simp [Value.oneCell']) n10.out (by omega) (by simp; omega) ?_; intro v10 w10 hown10 hgr10 _ hloc10)
                  have hX10 : PayAt (w9.alloc (.cells #[.int .i64 (ac + dl), .int .i64 y.p.type, .int .i64 y.p.seq, .int .i64 y.p.time, .int .i64 y.p.src, .bool y.p.mark, .slice y.pa y.pn y.pc] 33)) S (.slice (some ⟨ga, 0, none⟩) (l.length + 1) gca) (.slice none 0 0) (⟨ac + dl, y.p, y.pa, y.pn, y.pc⟩ : Arr) := (HPY.out.keeps (Keeps.of_below (ext_alloc (Below.refl _ w9)))).mix ⟨rfl, rfl, rfl⟩
                  have hW10 := HWA.out.more hX10 (own_len hown10 (by rw [HL3.out])) hgr10 hloc10
                  have hOK10 := HOKs.out.more (x := ⟨ac + dl, y.p, y.pa, y.pn, y.pc⟩) (by rw [HL3.out]; omega) ⟨HPO.out.1, HPO.out.2.1⟩ rfl
                  have hS10 := (HS9.out.below (ext_alloc (o := .cells #[.int .i64 (ac + dl), .int .i64 y.p.type, .int .i64 y.p.seq, .int .i64 y.p.time, .int .i64 y.p.src, .bool y.p.mark, .slice y.pa y.pn y.pc] 33) (Below.refl _ w9))).upto ((Below.refl (S + 1) _).grown hgr10 (by have := HWA.out.lt; omega) (fun b e => (HWA.out.rows.lt b e).1))
                  have hK10 := (HK9.out.ext (ext_alloc (o := .cells #[.int .i64 (ac + dl), .int .i64 y.p.type, .int .i64 y.p.seq, .int .i64 y.p.time, .int .i64 y.p.src, .bool y.p.mark, .slice y.pa y.pn y.pc] 33) (Below.refl _ w9))).grown0 hgr10 (fun b e => HBW.out b e)
                  have hG10 : ∀ b, v10.ownBlock = some b → w.heap.size ≤ b := fun b e => by
                    rcases hloc10 with e1 | e1
                    · rw [e1] at e; exact HBW.out b e
                    · rw [e1] at e; injection e with e; have := HK9.out.size; simp at e; omega
                  go_roundw
                  case rel => exact ⟨i + 1, _, sc + 1, tc + lo, ac + dl, hlt, by go_num, rfl, rfl, rfl, by omega, by omega, by omega, by omega, hW10, hOK10, (hS10).mono (by have := HK0.out; omega), hK10, hG10⟩
                  case measure => simp [intOf]; omega
    · obtain rfl : i = m := by omega
      obtain ⟨aa, acp, hva, _⟩ := HW.out.arrRow
      subst hva
      have HAO := Lib.hid (HOK.out.arrOk (by omega))
      have hfew := HOK.out.few
      go_wp2_with fail
      go_ret
      exact ⟨l, aa, acp, rfl, HAO.out, by omega, HW.out, HS.out.mono (by omega), HK.out⟩
end Go.Proofs.YtdjlchhfpomaiaaDoor
