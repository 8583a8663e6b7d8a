/- What is proved here: the walk of the statement WholeSoundsArePlayed: it answers true. Condition: the slice that came in lies in memory, and a table of the library as its initialiser lays it. -/
import Derived.Test.YtdjlchhfpomaiaaDoorPlayLoop
import Derived.Test.YtdjlchhfpomaiaaDoorGenPick
import Derived.Test.YtdjlchhfpomaiaaDoorEqualInts
import Derived.Test.YtdjlchhfpomaiaaDoorReady
namespace Go.Proofs.YtdjlchhfpomaiaaDoor
open Go.RowKit
set_option linter.unusedVariables false
set_option linter.unusedSimpArgs false

theorem Tryd.infoArr : (Tryd.prog.info? 33).map (fun i => (i.zero, i.size, i.bytes)) = some (some (.agg #[.int .i64 0, .int .i64 0, .int .i64 0, .int .i64 0, .int .i64 0, .bool false, .slice none 0 0]), 7, 72) := by kernel_rfl

theorem pick2 (S k b : Nat) (x0 x1 : Int) (P : Int → Prop) (w : World) (h : StreamOk w S k) (hk : k ≤ 1000000000) (hb : b < w.heap.size) (hS : b ≠ S) (h0 : w.cell? ⟨b, 0, none⟩ = some (.int .i64 x0)) (h1 : w.cell? ⟨b, 1, none⟩ = some (.int .i64 x1)) (p0 : P x0) (p1 : P x1) :
    Calls Tryd.prog 7 #[.pointer (some ⟨S, 0, none⟩), .slice (some ⟨b, 0, none⟩) 2 2] w (PickPost S (k + 1) P w) :=
  pick_any S k b 2 2 [x0, x1] P w h hk hb hS (by omega) (by omega) (fun i hi => by match i, hi with | 0, _ => exact h0 | 1, _ => exact h1) (fun i hi => by match i, hi with | 0, _ => exact p0 | 1, _ => exact p1)

set_option maxRecDepth 100000 in
set_option maxHeartbeats 4000000 in
theorem wholeSounds_true (w : World) (a : Option Addr) (len cap : Nat) (zs : List Int) (hr : ArgRow w a len cap zs) (ht : TabAt w) :
    Calls Tryd.prog 3 #[.slice a len cap] w fun e w' => e = .returned (.bool true) ∧ Below w.heap.size w w' := by
  obtain ⟨i0, hi, hz0, hz1, hz2⟩ := info_parts Tryd.infoByte
  obtain ⟨i1, hi1, hy0, hy1, hy2⟩ := info_parts Tryd.infoArr
  have hst := stream_start hr
  have HT0 := Lib.hid ht
  have HS0 := Lib.hid hst
  clear hr ht hst
  go_enter Tryd.func3, Tryd.ntmps3
  go_wp2_with fail
  refine (pick2 w.heap.size 0 _ 0 65534 (fun r => 0 ≤ r ∧ r ≤ 65534) _ (HS0.out.below (ext_alloc (Below.refl _ _))) (by omega) (by simp) (by simp) (by go_simp) (by go_simp) (by omega) (by omega)).mono ?_
  rintro e w1 ⟨sq, rfl, ⟨sq0, sq1⟩, hst1, hkp1⟩
  have HK1 := Lib.hid (Keeps.trans (Keeps.of_below (ext_alloc (Below.refl _ (w.alloc (.cells #[.slice a len cap, .int .i64 0] 25))))) hkp1)
  have HS1 := Lib.hid hst1
  have z1 : w.heap.size + 2 ≤ w1.heap.size := by have := hkp1.size; simp at this; omega
  clear hst1 hkp1
  go_wp2_with fail
  refine (pick2 w.heap.size 1 _ 0 4294967196 (fun r => 0 ≤ r ∧ r ≤ 4294967196) _ (HS1.out.below (ext_alloc (Below.refl _ _))) (by omega) (by simp) (by simp; omega) (by go_simp) (by go_simp) (by omega) (by omega)).mono ?_
  rintro e w2 ⟨T0, rfl, ⟨T00, T01⟩, hst2, hkp2⟩
  have HK2 := Lib.hid (HK1.out.trans (Keeps.trans (Keeps.of_below (ext_alloc (Below.refl _ w1))) hkp2))
  have HS2 := Lib.hid hst2
  have z2 : w1.heap.size + 1 ≤ w2.heap.size := by have := hkp2.size; simp at this; omega
  clear hst2 hkp2
  go_wp2_with fail
  refine (range_any w.heap.size 2 1 5 _ HS2.out (by omega) (by omega) (by omega) (by omega)).mono ?_
  rintro e w3 ⟨m, rfl, m0, m1, hst3, hkp3⟩
  obtain ⟨m, rfl⟩ := Int.eq_ofNat_of_zero_le (show 0 ≤ m by omega)
  have HK3 := Lib.hid (HK2.out.trans hkp3)
  have HS3 := Lib.hid hst3
  have z3 : w2.heap.size ≤ w3.heap.size := hkp3.size
  have HW3 : Hid (WSt w3 w.heap.size (.slice none 0 0) (.slice none 0 0) [] []) := ⟨by omega, World.ownsRow_nil _ _ _ _, World.ownsRow_nil _ _ _ _, (fun b e => by cases e), fun j hj => by simp at hj⟩
  clear hst3 hkp3
  go_wp2_with fail
  go_loopw [4, 5, 25] (fun vr va it wr => ∃ (l : List Arr) (r : List Int), l.length ≤ m ∧ it = .int .i64 (l.length : Int) ∧ Hid (WSt wr w.heap.size va vr l r) ∧ Hid (WsOk T0 sq l r) ∧ Hid (StreamOk wr w.heap.size (3 + 41 * l.length)) ∧ Hid (Keeps w.heap.size (w.alloc (.cells #[.slice a len cap, .int .i64 0] 25)) wr)) (fun _ _ it _ => m - (intOf it).toNat)
  case atStart => exact ⟨[], [], Nat.zero_le _, rfl, HW3, WsOk.nil _ _, HS3, HK3⟩
  case round =>
    obtain ⟨va, rfl⟩ : ∃ va : Value, va = u5 := ⟨_, rfl⟩
    obtain ⟨l, r, hl, rfl, HW, HOK, HS, HK⟩ := hrel
    by_cases hlt : l.length < m
    · obtain ⟨ra, rc, hrv⟩ := own_slice HW.out.raw
      subst hrv
      have hrl := HOK.out.len
      have HRL := Lib.hid hrl
      have hr200 : r.length ≤ 200 := by omega
      have zW := HW.out.lt
      obtain ⟨wo, rfl⟩ : ∃ wo : World, wo = wr := ⟨_, rfl⟩
      clear hrl
      go_wp2_with fail
      generalize hsc : (sq + (l.length : Int)) % 65536 = sc
      generalize htc : (T0 + (r.length : Int)) % 4294967296 = tc
      have HSC : Hid (sc = (sq + (l.length : Int)) % 65536) := hsc.symm
      have HTC : Hid (tc = (T0 + 40 * (l.length : Int)) % 4294967296) := by
        show _ = _
        rw [← htc, HRL.out]
        omega
      clear hsc htc
      have HP : Hid (PkAt w.heap.size (3 + 41 * l.length) wo.heap.size wo (wo.alloc (.cells #[.int .i64 0, .int .i64 sc, .int .i64 tc, .int .i64 0, .bool false, .slice none 0 0] 31)) 0 sc tc 0 false (.slice none 0 0) 0 []) :=
        ⟨by go_simp, by go_simp, by go_simp, by go_simp, by go_simp, by go_simp, fun j => by go_simp, World.ownsRow_nil _ _ _ _, (fun x hx => by cases hx), Keeps.of_below (ext_alloc (Below.refl _ _)), HS.out.below (ext_alloc (Below.refl _ _)), by simp⟩
      go_loopw [38] (fun it wr => ∃ (q : Nat) (v : Value) (xs : List Int), q ≤ 40 ∧ it = .int .i64 q ∧ Hid (PkAt w.heap.size (3 + 41 * l.length) wo.heap.size wo wr 0 sc tc 0 false v q xs)) (fun it _ => 40 - (intOf it).toNat)
      case atStart => exact ⟨0, _, [], Nat.zero_le _, rfl, HP⟩
      case round =>
        obtain ⟨q, v, xs, hq, rfl, HT⟩ := hrel
        by_cases hlq : q < 40
        · have c5 := HT.out.c5
          have zT := HT.out.size
          have n5 : q + 1 ≤ maxLen := by unfold maxLen; omega
          have N5 := Lib.hid n5
          clear n5
          go_wp2_with fail
          refine region_gen w.heap.size (3 + 41 * l.length + q) 6 [.val (· = .pointer (some ⟨wo.heap.size, 5, none⟩)), .val (v = ·), .val (· = .pointer (some ⟨w.heap.size, 0, none⟩)), .val (fun x => ∃ r : Int, x = .int .i64 r ∧ (0 ≤ r ∧ r ≤ 255)), .val (fun x => ∃ r : Int, x = .int .u8 r ∧ 0 ≤ r ∧ r ≤ 255), .arr 1 (fun vs => ∃ r : Int, (0 ≤ r ∧ r ≤ 255) ∧ vs = [.int .u8 r])] [3] [some 40, some 41, some 42, some 43, some 44, some 45] (by kernel_rfl) (by kernel_rfl) (by kernel_rfl) (by kernel_rfl) rfl (by kernel_rfl) HT.out.stream ⟨?_, ?_, ?_, ?_, ?_, ?_, trivial⟩ ?_
          · intro a w' c hk hst hc hfr hdp K hK
            have f : a.tmps[9]?.getD undef = .pointer (some ⟨wo.heap.size, 0, none⟩) := slot_of (hfr 9 (by kernel_rfl))
            refine gen_pure (v := .pointer (some ⟨wo.heap.size, 5, none⟩)) ?_ (hK _ _ rfl (Keeps.refl _ _) hst)
            go_simp
          · intro a w' c hk hst hc hfr hdp K hK
            have d : a.tmps[40]?.getD undef = .pointer (some ⟨wo.heap.size, 5, none⟩) := slot_of (hdp 0 40 _ (by kernel_rfl) (by kernel_rfl) rfl)
            have cl : w'.cell? ⟨wo.heap.size, 5, none⟩ = some (v) := (hk.cell (p := ⟨wo.heap.size, 5, none⟩) (by show wo.heap.size < wr.heap.size; omega) (by show wo.heap.size ≠ w.heap.size; omega)).trans c5
            refine gen_pure (v := v) ?_ (hK _ _ rfl (Keeps.refl _ _) hst)
            go_simp
          · intro a w' c hk hst hc hfr hdp K hK
            have f : a.tmps[3]?.getD undef = .pointer (some ⟨w.heap.size, 0, none⟩) := slot_of (hfr 3 (by kernel_rfl))
            refine gen_pure (v := .pointer (some ⟨w.heap.size, 0, none⟩)) ?_ (hK _ _ rfl (Keeps.refl _ _) hst)
            go_simp
          · intro a w' c hk hst hc hfr hdp K hK
            have d1 : a.tmps[42]?.getD undef = .pointer (some ⟨w.heap.size, 0, none⟩) := slot_of (hdp 2 42 _ (by kernel_rfl) (by kernel_rfl) rfl)
            have hc2 : c + 1 ≤ 1 := hc
            refine gen_call 8 #[.pointer (some ⟨w.heap.size, 0, none⟩), .int .i64 (0), .int .i64 (255)] ?_ (range_any w.heap.size _ (0) (255) w' hst (by omega) (by omega) (by omega) (by omega)) ?_
            · clear hK; go_simp
            rintro e w'' ⟨r, rfl, r0, r1, hst2, hkp⟩
            exact ⟨_, rfl, hK _ _ ⟨r, rfl, r0, r1⟩ hkp hst2⟩
          · intro a w' c hk hst hc hfr hdp K hK
            obtain ⟨r, g3, r0, r1⟩ := hdp 3 43 _ (by kernel_rfl) (by kernel_rfl) rfl
            have s3 := slot_of g3
            have hwr : IntKind.u8.wrap r = r := by rw [IntKind.wrap_u8]; omega
            refine gen_pure (v := .int .u8 r) ?_ (hK _ _ ⟨r, rfl, r0, r1⟩ (Keeps.refl _ _) hst)
            clear g3 hK
            go_simp
          · intro a w' c hk hst hc hfr hdp K hK
            obtain ⟨r, g3, r0, r1⟩ := hdp 4 44 _ (by kernel_rfl) (by kernel_rfl) rfl
            have s3 := slot_of g3
            refine gen_alloc (p := fun vs => ∃ r : Int, (0 ≤ r ∧ r ≤ 255) ∧ vs = [.int .u8 r]) #[.int .u8 r] 5 ?_ ⟨r, ⟨r0, r1⟩, rfl⟩ hst hK
            clear g3 hK
            go_simp
          intro w8 hk8 hst8
          rintro _ rfl _ rfl _ rfl _ - _ - _ ⟨gb, _, rfl, ⟨y, hy, rfl⟩, hgb, hgl, hgc⟩
          simp only [ForVals, Act.put, List.setIfInBounds_toArray, List.set_cons_zero, List.set_cons_succ, List.drop_succ_cons, List.drop_zero]
          have hkd : Keeps w.heap.size wr w8 := Keeps.trans (by exact Keeps.of_below (ext_drew (Below.refl _ _))) hk8
          obtain ⟨⟨d0, d1, d2, d3, d4, d5⟩, dfro, down, dkp, dsz⟩ := HT.out.kept zW hkd
          have HST8 := Lib.hid hst8
          have HD := Lib.hid (And.intro d0 (And.intro d1 (And.intro d2 (And.intro d3 (And.intro d4 dfro)))))
          have HDK := Lib.hid dkp
          have f5 := dfro 5
          clear hst8 hk8 hkd d0 d1 d2 d3 d4 dfro dkp
          refine wpList_append_own w8 rfl (.tmp 41) (.tmp 45) 26 rfl (wo.heap.size + 1) 5 i0 (.int .u8 0) 1 1 Tryd.underlying26 hi hz0 hz1 hz2 rfl (by decide) v q (xs.map (Value.int .u8)) rfl down ⟨gb, 0, none⟩ 1 1 [.int .u8 y] rfl rfl (fun j u hj => by rw [addr_add0]; exact hgc j u hj) (by simp [Value.oneCell']) N5.out (by omega) (by omega) ?_
          intro v9 w9 hown9 hgr9 _
          obtain ⟨ga, gcap, rfl⟩ := own_slice hown9
          have ag : v.ownBlock ≠ some wo.heap.size := fun e => by have := (down.lt _ e).1; omega
          have c9 : w9.cell? ⟨wo.heap.size, 5, none⟩ = some v := (grown_cell hgr9 (by omega) ag).trans d5
          have f9 : w9.frozen? ⟨wo.heap.size, 5, none⟩ = false := (grown_frozen hgr9 (by omega) ag).trans f5
          have HN : Hid (PkAt w.heap.size (3 + 41 * l.length) wo.heap.size wo (w9.setCell ⟨wo.heap.size, 5, none⟩ (.slice ga (q + 1) gcap)) 0 sc tc 0 false (.slice ga (q + 1) gcap) (q + 1) (xs ++ [y])) := by
            obtain ⟨d0, d1, d2, d3, d4, dfro⟩ := HD.out
            have cc := fun j => (World.cell?_setCell_other w9 ⟨wo.heap.size, 5, none⟩ ⟨wo.heap.size, j, none⟩ (.slice ga (q + 1) gcap))
            have gg := fun j => grown_cell (o := j) hgr9 dsz ag
            refine ⟨(cc 0 (by simp)).trans ((gg 0).trans d0), (cc 1 (by simp)).trans ((gg 1).trans d1), (cc 2 (by simp)).trans ((gg 2).trans d2), (cc 3 (by simp)).trans ((gg 3).trans d3), (cc 4 (by simp)).trans ((gg 4).trans d4), World.cell?_setCell_same _ _ _ c9, fun j => by rw [World.frozen?_setCell]; exact (grown_frozen hgr9 dsz ag).trans (dfro j), ?_, ?_, ?_, ?_, ?_⟩
            · rw [List.map_append]; exact ownsRow_setCell_below hown9 (by show wo.heap.size < _; omega) _
            · intro x hx
              rcases List.mem_append.1 hx with hx | hx
              · exact HT.out.bytes x hx
              · simp at hx; omega
            · exact (HDK.out.grown0 hgr9 (fun b e => by have := (down.lt b e).1; omega)).setCell_new (by simp) _
            · exact HST8.out.upto ((((Below.refl (w.heap.size + 1) w8).grown hgr9 (by omega) (fun b e => by have := (down.lt b e).1; omega))).setCell (by show w.heap.size + 1 ≤ wo.heap.size; omega) _)
            · have := hgr9.size; simp; omega
          clear hown9 hgr9 HD HDK HST8 hgc down d5 f5
          go_wp2_with fail
          go_roundw
          case rel => exact ⟨q + 1, _, xs ++ [y], by omega, by go_num, HN⟩
          case measure => simp [intOf]; omega
        · obtain rfl : q = 40 := by omega
          obtain ⟨av, cp, rfl, hrow, hat⟩ := IRow.of_own_at HT.out.own
          have hxl : 40 = xs.length := hrow.1
          obtain ⟨pb, poff, rfl⟩ : ∃ pb poff, av = some ⟨pb, poff, none⟩ := by
            rcases hrow.2 with h0 | ⟨b, off, e, _⟩
            · omega
            · exact ⟨b, off, e⟩
          have HPB : Hid (wo.heap.size + 1 ≤ pb) := hat pb poff rfl
          have HROW := Lib.hid hrow
          have HXL := Lib.hid hxl
          clear hxl
          have c0 := HT.out.c0
          have c1 := HT.out.c1
          have c2 := HT.out.c2
          have c3 := HT.out.c3
          have c4 := HT.out.c4
          have c5 := HT.out.c5
          have zT := HT.out.size
          clear hrow hat
          go_wp2_with fail
          refine region_gen w.heap.size (3 + 41 * l.length + 40) 9 [.val (va = ·), .val (.int .i64 (l.length : Int) = ·), .val (· = .int .i64 (5 * (l.length : Int))), .val (· = .pointer (some ⟨w.heap.size, 0, none⟩)), .val (fun x => ∃ r : Int, x = .int .i64 r ∧ (0 ≤ r ∧ r ≤ 4)), .val (fun x => ∃ r : Int, x = .int .i64 (5 * (l.length : Int) + r) ∧ 0 ≤ r ∧ r ≤ 4), .val (· = .agg #[.int .i64 0, .int .i64 sc, .int .i64 tc, .int .i64 0, .bool false, .slice (some ⟨pb, poff, none⟩) 40 cp]), .val (fun x => ∃ at0 : Int, x = .agg #[.int .i64 at0, .int .i64 0, .int .i64 sc, .int .i64 tc, .int .i64 0, .bool false, .slice (some ⟨pb, poff, none⟩) 40 cp] ∧ 5 * (l.length : Int) ≤ at0 ∧ at0 ≤ 5 * (l.length : Int) + 4), .arr 1 (fun vs => ∃ at0 : Int, (5 * (l.length : Int) ≤ at0 ∧ at0 ≤ 5 * (l.length : Int) + 4) ∧ vs = [.int .i64 at0, .int .i64 0, .int .i64 sc, .int .i64 tc, .int .i64 0, .bool false, .slice (some ⟨pb, poff, none⟩) 40 cp])] [4] [some 49, some 50, some 51, some 52, some 53, some 54, some 55, some 56, some 57] (by kernel_rfl) (by kernel_rfl) (by kernel_rfl) (by kernel_rfl) rfl (by kernel_rfl) HT.out.stream ⟨?_, ?_, ?_, ?_, ?_, ?_, ?_, ?_, ?_, trivial⟩ ?_
          · intro a w' c hk hst hc hfr hdp K hK
            have f : a.tmps[5]?.getD undef = va := slot_of (hfr 5 (by kernel_rfl))
            refine gen_pure (v := va) ?_ (hK _ _ rfl (Keeps.refl _ _) hst)
            go_simp
          · intro a w' c hk hst hc hfr hdp K hK
            have f : a.tmps[8]?.getD undef = .int .i64 (l.length : Int) := slot_of (hfr 8 (by kernel_rfl))
            refine gen_pure (v := .int .i64 (l.length : Int)) ?_ (hK _ _ rfl (Keeps.refl _ _) hst)
            go_simp
          · intro a w' c hk hst hc hfr hdp K hK
            have d : a.tmps[50]?.getD undef = .int .i64 (l.length : Int) := slot_of (hdp 1 50 _ (by kernel_rfl) (by kernel_rfl) rfl).symm
            refine gen_pure (v := .int .i64 (5 * (l.length : Int))) ?_ (hK _ _ rfl (Keeps.refl _ _) hst)
            clear hK
            go_simp
            rw [IntKind.wrap_i64]; omega
          · intro a w' c hk hst hc hfr hdp K hK
            have f : a.tmps[3]?.getD undef = .pointer (some ⟨w.heap.size, 0, none⟩) := slot_of (hfr 3 (by kernel_rfl))
            refine gen_pure (v := .pointer (some ⟨w.heap.size, 0, none⟩)) ?_ (hK _ _ rfl (Keeps.refl _ _) hst)
            go_simp
          · intro a w' c hk hst hc hfr hdp K hK
            have d1 : a.tmps[52]?.getD undef = .pointer (some ⟨w.heap.size, 0, none⟩) := slot_of (hdp 3 52 _ (by kernel_rfl) (by kernel_rfl) rfl)
            have hc2 : c + 1 ≤ 1 := hc
            refine gen_call 8 #[.pointer (some ⟨w.heap.size, 0, none⟩), .int .i64 (0), .int .i64 (4)] ?_ (range_any w.heap.size _ (0) (4) w' hst (by omega) (by omega) (by omega) (by omega)) ?_
            · clear hK; go_simp
            rintro e w'' ⟨r, rfl, r0, r1, hst2, hkp⟩
            exact ⟨_, rfl, hK _ _ ⟨r, rfl, r0, r1⟩ hkp hst2⟩
          · intro a w' c hk hst hc hfr hdp K hK
            have d : a.tmps[51]?.getD undef = .int .i64 (5 * (l.length : Int)) := slot_of (hdp 2 51 _ (by kernel_rfl) (by kernel_rfl) rfl)
            obtain ⟨r, g3, r0, r1⟩ := hdp 4 53 _ (by kernel_rfl) (by kernel_rfl) rfl
            have s3 := slot_of g3
            refine gen_pure (v := .int .i64 (5 * (l.length : Int) + r)) ?_ (hK _ _ ⟨r, rfl, r0, r1⟩ (Keeps.refl _ _) hst)
            clear g3 hK
            go_simp
            rw [IntKind.wrap_i64]; omega
          · intro a w' c hk hst hc hfr hdp K hK
            have cc := fun j => hk.cell (p := ⟨wo.heap.size, j, none⟩) (by show wo.heap.size < wr.heap.size; omega) (by show wo.heap.size ≠ w.heap.size; omega)
            have l0 := (cc 0).trans c0
            have l1 := (cc 1).trans c1
            have l2 := (cc 2).trans c2
            have l3 := (cc 3).trans c3
            have l4 := (cc 4).trans c4
            have l5 := (cc 5).trans c5
            have f : a.tmps[9]?.getD undef = .pointer (some ⟨wo.heap.size, 0, none⟩) := slot_of (hfr 9 (by kernel_rfl))
            refine gen_pure (v := .agg #[.int .i64 0, .int .i64 sc, .int .i64 tc, .int .i64 0, .bool false, .slice (some ⟨pb, poff, none⟩) 40 cp]) ?_ (hK _ _ rfl (Keeps.refl _ _) hst)
            clear hK cc
            go_simp
          · intro a w' c hk hst hc hfr hdp K hK
            obtain ⟨r, g3, r0, r1⟩ := hdp 5 54 _ (by kernel_rfl) (by kernel_rfl) rfl
            have s3 := slot_of g3
            have d : a.tmps[55]?.getD undef = .agg #[.int .i64 0, .int .i64 sc, .int .i64 tc, .int .i64 0, .bool false, .slice (some ⟨pb, poff, none⟩) 40 cp] := slot_of (hdp 6 55 _ (by kernel_rfl) (by kernel_rfl) rfl)
            refine gen_pure (v := .agg #[.int .i64 (5 * (l.length : Int) + r), .int .i64 0, .int .i64 sc, .int .i64 tc, .int .i64 0, .bool false, .slice (some ⟨pb, poff, none⟩) 40 cp]) ?_ (hK _ _ ⟨_, rfl, by omega, by omega⟩ (Keeps.refl _ _) hst)
            clear g3 hK
            go_simp
          · intro a w' c hk hst hc hfr hdp K hK
            obtain ⟨r, g3, r0, r1⟩ := hdp 7 56 _ (by kernel_rfl) (by kernel_rfl) rfl
            have s3 := slot_of g3
            refine gen_alloc (p := fun vs => ∃ at0 : Int, (5 * (l.length : Int) ≤ at0 ∧ at0 ≤ 5 * (l.length : Int) + 4) ∧ vs = [.int .i64 at0, .int .i64 0, .int .i64 sc, .int .i64 tc, .int .i64 0, .bool false, .slice (some ⟨pb, poff, none⟩) 40 cp]) #[.int .i64 r, .int .i64 0, .int .i64 sc, .int .i64 tc, .int .i64 0, .bool false, .slice (some ⟨pb, poff, none⟩) 40 cp] 33 ?_ ⟨r, ⟨r0, r1⟩, rfl⟩ hst hK
            clear g3 hK
            go_simp
          intro w8 hk8 hst8
          rintro _ rfl _ rfl _ rfl _ rfl _ - _ - _ rfl _ - _ ⟨gb, _, rfl, ⟨at0, hat0, rfl⟩, hgb, hgl, hgc⟩
          simp only [ForVals, Act.put, List.setIfInBounds_toArray, List.set_cons_zero, List.set_cons_succ, List.drop_succ_cons, List.drop_zero]
          have hkd : Keeps w.heap.size wr w8 := Keeps.trans (by exact Keeps.of_below (ext_drew (Below.refl _ _))) hk8
          have hk80 := HT.out.keeps.trans hkd
          have HW8 := Lib.hid (HW.out.keeps hk80)
          have HK8 := Lib.hid (HK.out.trans hk80)
          have HST8 := Lib.hid hst8
          have d5 := (hkd.cell (p := ⟨wo.heap.size, 5, none⟩) zT (by show wo.heap.size ≠ w.heap.size; omega)).trans c5
          have z8 : wo.heap.size < w8.heap.size := Nat.lt_of_lt_of_le zT hkd.size
          have hpb := HPB.out
          have hnr : ∀ b, va.ownBlock = some b → b < wo.heap.size := fun b e => (HW.out.rows.lt b e).2
          have hnw : ∀ b, (Value.slice ra r.length rc).ownBlock = some b → b < wo.heap.size := fun b e => (HW.out.raw.lt b e).2
          have HX8 : Hid (PayAt w8 w.heap.size va (.slice ra r.length rc) ⟨at0, ⟨0, sc, tc, 0, false, xs⟩, some ⟨pb, poff, none⟩, 40, cp⟩) := by
            have hI := HROW.out.keeps hkd (fun b off e => by injection e with e; injection e with e1 e2; omega)
            refine ⟨hI, (fun e => by cases e), fun p e => ?_⟩
            injection e with e
            subst e
            refine ⟨rfl, by show w.heap.size < pb; omega, ?_, fun e => by have := hnr _ e; simp at this; omega, fun e => by have := hnw _ e; simp at this; omega⟩
            rcases hI.2 with h0 | ⟨b, off, e, hb, _⟩
            · omega
            · injection e with e; injection e with e1 e2; show pb < _; omega
          clear hst8 hk8 hkd hk80 c0 c1 c2 c3 c4 c5
          have n9 : l.length + 1 ≤ maxLen := by unfold maxLen; omega
          refine wpList_append_own_at w8 rfl (.tmp 49) (.tmp 57) 27 rfl (w.heap.size + 1) 33 i1 _ 7 72 Tryd.underlying27 hi1 hy0 hy1 hy2 rfl (by omega) va l.length (flatA l) rfl HW8.out.rows ⟨gb, 0, none⟩ 1 1 _ rfl rfl (fun j u hj => by rw [addr_add0]; exact hgc j u hj) (by simp [Value.oneCell']) n9 (by omega) (by omega) ?_
          intro v9 w9 hown9 hgr9 _ hloc9
          have HW9 := Lib.hid (HW8.out.more HX8.out hown9 hgr9 hloc9)
          have ag : va.ownBlock ≠ some wo.heap.size := fun e => by have := hnr _ e; omega
          have d9 := (grown_cell hgr9 z8 ag).trans d5
          have HST9 := Lib.hid (HST8.out.upto ((Below.refl (w.heap.size + 1) w8).grown hgr9 (by omega) (fun b e => (HW8.out.rows.lt b e).1)))
          have HK9 := Lib.hid (HK8.out.grown0 hgr9 (fun b e => by have := (HW8.out.rows.lt b e).1; simp; omega))
          have z9 : w8.heap.size ≤ w9.heap.size := hgr9.size
          have hx9 := HW9.out.pays l.length (by simp)
          rw [show (l ++ [(⟨at0, ⟨0, sc, tc, 0, false, xs⟩, some ⟨pb, poff, none⟩, 40, cp⟩ : Arr)]).getD l.length noArr = ⟨at0, ⟨0, sc, tc, 0, false, xs⟩, some ⟨pb, poff, none⟩, 40, cp⟩ by simp [List.getD_eq_getElem?_getD]] at hx9
          have HX9 := Lib.hid hx9.1
          have HOK9 : Hid (WsOk T0 sq (l ++ [⟨at0, ⟨0, sc, tc, 0, false, xs⟩, some ⟨pb, poff, none⟩, 40, cp⟩]) (r ++ xs)) := HOK.out.more ⟨rfl, rfl, HSC.out, HTC.out, hat0.1, hat0.2, HT.out.bytes, HXL.out.symm⟩
          have hm : Hid (r.length + 40 ≤ maxLen) := by show _ ≤ _; unfold maxLen; omega
          clear hown9 hgr9 hx9 d5 hgc n9
          go_wp2_with (at_builtin; refine wpList_append_own_at _ rfl (.tmp 59) (.tmp 61) 26 rfl (w.heap.size + 1) 5 i0 (.int .u8 0) 1 1 Tryd.underlying26 hi hz0 hz1 hz2 rfl (by decide) _ r.length (r.map (Value.int .u8)) rfl HW9.out.raw ⟨pb, poff, none⟩ 40 cp (xs.map (Value.int .u8)) rfl (by rw [List.length_map, ← HXL.out]) (irow_news HX9.out) (onecell_ints .u8 xs) hm.out (by omega) (by omega) ?_; intro v10 w10 hown10 hgr10 _ hloc10)
          have hW10 := HW9.out.bytes (s := xs) (by rw [← HXL.out]; exact hown10) hgr10 hloc10
          have hst10 := HST9.out.upto ((Below.refl (w.heap.size + 1) w9).grown hgr10 (by omega) (fun b e => (HW9.out.raw.lt b e).1))
          have hk10 := HK9.out.grown0 hgr10 (fun b e => by have := (HW9.out.raw.lt b e).1; simp; omega)
          go_roundw
          case rel => exact ⟨_, _, by simp; omega, by simp, hW10, HOK9, hst10.mono (by simp; omega), hk10⟩
          case measure => simp [intOf]; omega
    · obtain ⟨aa, ac, hva, harr⟩ := HW.out.arrRow
      obtain ⟨ra, rc, hrv, hraw⟩ := IRow.of_own HW.out.raw
      subst hva
      subst hrv
      have HAR := Lib.hid harr
      have HRR := Lib.hid hraw
      have hl5 : l.length ≤ 5 := by omega
      have hrl := HOK.out.len
      have HRL := Lib.hid hrl
      have hr200 : r.length ≤ 200 := by omega
      have hdiv : (r.length : Int) / 8 = ((5 * l.length : Nat) : Int) := by omega
      have HAO := Lib.hid (HOK.out.arrOk hl5)
      have HBY := Lib.hid HOK.out.bytes
      have HPL : Hid (∀ d : Int, 5 ≤ d → playL l d (40 * l.length) = r.map expandI) := fun d hd => by rw [play_whole l T0 d (HOK.out.inTime T00 (by omega)) hl5 hd, HOK.out.flat]
      obtain ⟨wo, rfl⟩ : ∃ wo : World, wo = wr := ⟨_, rfl⟩
      clear harr hraw hrl
      go_wp2_with fail
      refine (great_any _ ra r.length rc r HRR.out HBY.out (by omega)).mono ?_
      rintro e w5 ⟨v5, rfl, hown5, hB5⟩
      obtain ⟨a5, c5, hv5, hrow5, hat5⟩ := IRow.of_own_at hown5
      have HA5 : Hid (∀ b off, a5 = some ⟨b, off, none⟩ → b ≠ w.heap.size) := fun b off e => by have := hat5 b off e; have := HW.out.lt; omega
      clear hat5
      rw [hv5]
      have HR5 : Hid (IRow .i64 w5 a5 r.length (r.map expandI)) := by show IRow _ _ _ _ _; simpa using hrow5
      have HB5 := Lib.hid hB5
      clear hown5 hv5 hrow5 hB5
      go_wp2_with fail
      refine (range_any w.heap.size _ 5 30 _ (HS.out.below HB5.out) (by omega) (by omega) (by omega) (by omega)).mono ?_
      rintro e w6 ⟨dl, rfl, dl0, dl1, hst6, hkp6⟩
      have HK6 := Lib.hid ((HK.out.ext HB5.out).trans hkp6)
      have HKP := Lib.hid hkp6
      clear hst6 hkp6
      go_wp2_with fail
      refine (playOut_any _ aa l.length ac l dl (5 * l.length) ?_ HAO.out (by omega) (by omega) (by omega) (40 * l.length) (by omega)).mono ?_
      · exact (HW.out.keeps ((Keeps.of_below HB5.out).trans HKP.out)).arrRow_at
      rw [HPL.out dl dl0]
      rintro e w7 ⟨v7, rfl, hown7, hB7⟩
      obtain ⟨a7, c7, hv7, hrow7⟩ := IRow.of_own hown7
      rw [hv7]
      have HR7 : Hid (IRow .i64 w7 a7 r.length (r.map expandI)) := by show IRow _ _ _ _ _; simpa using hrow7
      have HB7 := Lib.hid hB7
      have HK7 := Lib.hid (HK6.out.ext hB7)
      clear hown7 hv7 hrow7 hB7
      go_wp2_with fail
      refine (equal_ints _ a7 a5 r.length c7 r.length c5 (r.map expandI) HR7.out (((HR5.out.keeps HKP.out HA5.out)).below HB7.out) (by omega)).mono ?_
      rintro e w8 ⟨rfl, q8, rfl⟩
      have HK8 := Lib.hid (HK7.out.drewN q8)
      go_wp2_with fail
      refine (ready_true _ ((HT0.out.below (ext_alloc (Below.refl _ _))).keeps HK8.out (by have := HT0.out.1; omega))).mono ?_
      rintro e w9 ⟨rfl, hB9⟩
      go_wp2_with fail
      go_ret
      exact ⟨rfl, law_end (HK8.out.ext hB9)⟩
end Go.Proofs.YtdjlchhfpomaiaaDoor
