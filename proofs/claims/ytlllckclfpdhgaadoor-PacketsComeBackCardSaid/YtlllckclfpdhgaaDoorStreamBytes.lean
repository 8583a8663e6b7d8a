/- What is proved here: Bytes of a stream hands back bytes, at most two more than it was given. Condition: what is handed in lies in memory as stated. -/
import Derived.Test.YtlllckclfpdhgaaDoorPacketRef
import Derived.Laws.BitsAllLaws
import Derived.IntWalk
import Derived.Deep.RegionHeld3
namespace Go.Proofs.YtlllckclfpdhgaaDoor
open Go.RowKit
set_option linter.unusedVariables false
set_option linter.unusedSimpArgs false

theorem xor_range (a b : Int) (h1 : 0 ≤ a) (h2 : a ≤ 255) (h3 : 0 ≤ b) (h4 : b ≤ 255) : 0 ≤ bits .xor .u8 a b ∧ bits .xor .u8 a b ≤ 255 := by
  rw [u8_xor a b h1 (by omega) h3 (by omega)]
  have : a.toNat ^^^ b.toNat < 2 ^ 8 := Nat.xor_lt_two_pow (by omega) (by omega)
  omega

theorem own_prefix {w : World} {base : Nat} {e : TypeId} {g cap m : Nat} {xs : List Value} (h : w.ownsRow base e 1 (.slice (some ⟨g, 0, none⟩) m cap) m xs) (i : Nat) (hi : i ≤ m) : w.ownsRow base e 1 (.slice (some ⟨g, 0, none⟩) i cap) i (xs.take i) := by
  have hl := h.1
  refine ⟨by simp; omega, Or.inr ?_⟩
  rcases h.2 with ⟨h1, _⟩ | ⟨g', cap', cur, h1, hb, hg, hc, hm, hs, ht⟩
  · cases h1
  · injection h1 with h2 h3 h4
    injection h2 with h2
    injection h2 with h5
    subst h5; subst h4
    refine ⟨g, cap, cur, rfl, hb, hg, by omega, hm, hs, ?_⟩
    rw [← ht, List.take_take, Nat.min_eq_left (by omega), Nat.mul_one]

theorem own_form {w : World} {base : Nat} {e : TypeId} {v : Value} {m : Nat} {xs : List Value} (h : w.ownsRow base e 1 v m xs) (hm : 0 < m) : ∃ g cap, v = .slice (some ⟨g, 0, none⟩) m cap ∧ m ≤ cap ∧ base ≤ g ∧ g < w.heap.size ∧ cap ≤ maxLen := by
  rcases h.2 with ⟨rfl, h0⟩ | ⟨g, cap, cur, rfl, hb, hg, hc, hx, _⟩
  · omega
  · exact ⟨g, cap, rfl, hc, hb, (h.lt g rfl).2, hx⟩

theorem grown_drew {w w' : World} {r : Option Nat} (h : w.drew.grownBy w' r) : w.grownBy w' r := ⟨h.os, h.tape, h.output, h.size, h.block⟩

def StBytesPost (S k n : Nat) (w : World) (e : Ending) (w' : World) : Prop :=
  ∃ (v : Value) (m : Nat) (ys : List Int), e = .returned v ∧ w'.ownsRow w.heap.size 5 1 v m (ys.map (Value.int .u8)) ∧ Bytes ys ∧ m ≤ n + 2 ∧ StreamOk w' S k ∧ Keeps S w w'

/-- Bytes in the making. -/
structure BuAt (S k n : Nat) (w wr : World) (v : Value) (q m : Nat) (ys : List Int) : Prop where
  own : wr.ownsRow w.heap.size 5 1 v m (ys.map (Value.int .u8))
  bytes : Bytes ys
  few : m ≤ n + q
  stream : StreamOk wr S (k + 3 * q)
  keeps : Keeps S w wr

set_option maxRecDepth 100000 in
set_option maxHeartbeats 4000000 in
theorem stBytes_any (S k : Nat) (w : World) (h : StreamOk w S k) (hk : k ≤ 1000000) (ad : Addr) (n cap0 : Nat) (xs : List Int) (hr : IRow .u8 w (some ad) n xs) (hx : Bytes xs) (hn : n ≤ 2000) :
    Calls Tryd.prog 52 #[.pointer (some ⟨S, 0, none⟩), .slice (some ad) n cap0] w (StBytesPost S (k + 8) n w) := by
  obtain ⟨i0, hi, hz0, hz1, hz2⟩ := info_parts Tryd.infoByte
  have hS := h.lt
  have H := Lib.hid h
  have HR := Lib.hid hr
  have HX := Lib.hid hx
  clear h hr hx
  go_enter Tryd.func52, Tryd.ntmps52
  go_wp2_with (at_builtin; refine wpList_append_own _ rfl (.const (.slice none 0 0)) (.tmp 7) 42 rfl w.heap.size 5 i0 (.int .u8 0) 1 1 Tryd.underlying42 hi hz0 hz1 hz2 rfl (by decide) (.slice none 0 0) 0 [] rfl (World.ownsRow_nil _ _ _ _) ad n cap0 (xs.map (Value.int .u8)) rfl (by have := HR.out.1; simp; omega) (irow_news HR.out) (onecell_ints _ _) (by simp only [maxLen]; omega) (by omega) (by omega) ?_; intro v1 w1 hown1 hgr1 _)
  have hb1 := below_of_grown_none hgr1
  refine (range_any S k 1 2 _ (H.out.below hb1) (by omega) (by omega) (by omega) (by omega)).mono ?_
  rintro e w2 ⟨tot, rfl, t0, t1, hst2, hkp2⟩
  obtain ⟨tot, rfl⟩ := Int.eq_ofNat_of_zero_le (by omega : 0 ≤ tot)
  have HB2 : Hid (BuAt S (k + 1) n w w2 v1 0 n xs) := by
    refine ⟨own_keeps (by simpa using hown1) hkp2 (by omega), HX.out, by omega, hst2, (Keeps.of_below hb1).trans hkp2⟩
  clear hown1 hgr1 hb1 hst2 hkp2
  go_wp2_with fail
  go_loopw [5, 11] (fun v it wr => ∃ (q m : Nat) (ys : List Int), q ≤ tot ∧ it = .int .i64 q ∧ Hid (BuAt S (k + 1) n w wr v q m ys)) (fun _ it _ => tot - (intOf it).toNat)
  case atStart => exact ⟨0, n, xs, Nat.zero_le _, rfl, HB2⟩
  case round =>
    obtain ⟨q, m, ys, hq, rfl, HT⟩ := hrel
    have hfew := HT.out.few
    have hzz := HT.out.keeps.size
    obtain ⟨av, cv, hvv⟩ := own_slice HT.out.own
    by_cases hlt : q < tot
    · have hd3 : decide ((q : Int) < (tot : Int)) = true := by simp; omega
      by_cases hm0 : m = 0
      · subst hm0
        subst hvv
        go_wp2_with fail
        refine (next_any S _ 256 _ HT.out.stream (by omega) (by omega) (by omega)).mono ?_
        rintro e w3 ⟨r, rfl, r0, r1, hst3, hkp3⟩
        have HO3 := Lib.hid ((own_keeps HT.out.own hkp3 (by omega)).alloc (.cells #[.int .u8 r] 5))
        have HK3 := Lib.hid (HT.out.keeps.trans hkp3)
        have HS3 := Lib.hid hst3
        have z3 : w.heap.size ≤ w3.heap.size := HK3.out.size
        have hrow := fun b e => (HO3.out.lt b e).1
        clear hst3 hkp3
        go_wp2_with (at_builtin; refine wpList_append_own _ rfl (.tmp 16) (.tmp 20) 42 rfl w.heap.size 5 i0 (.int .u8 0) 1 1 Tryd.underlying42 hi hz0 hz1 hz2 rfl (by decide) _ 0 (ys.map (Value.int .u8)) rfl HO3.out ⟨w3.heap.size, 0, none⟩ 1 1 [.int .u8 r] rfl rfl (news_one (by go_simp)) (by simp [Value.oneCell']) (by simp only [maxLen]; omega) (by omega) (by simp; omega) ?_; intro v4 w4 hown4 hgr4 _)
        go_ret
        exact ⟨_, 1, ys ++ [r], rfl, by rw [List.map_append]; simpa using hown4, bytes_snoc HT.out.bytes (by omega) (by omega), by omega, (HS3.out.upto (upto_grown hgr4 (by omega) (fun b e => by have := hrow b e; omega))).mono (by omega), HK3.out.grown hgr4 hrow⟩
      · obtain ⟨g, cap, rfl, hmc, hbg, hgl, hcm⟩ := own_form HT.out.own (by omega)
        have hm1 : ((m : Int) == 0) = false := by simp; omega
        clear hvv
        go_wp2_with fail
        refine (next_any S _ m _ HT.out.stream (by omega) (by omega) (by omega)).mono ?_
        rintro e w3 ⟨i, rfl, i0', i1, hst3, hkp3⟩
        obtain ⟨i, rfl⟩ := Int.eq_ofNat_of_zero_le i0'
        have HO3 := Lib.hid (own_keeps HT.out.own hkp3 (by omega))
        have HK3 := Lib.hid (HT.out.keeps.trans hkp3)
        have HS3 := Lib.hid hst3
        clear hst3 hkp3
        go_wp2_with fail
        refine (next_any S _ 4 _ HS3.out (by omega) (by omega) (by omega)).mono ?_
        rintro e w4 ⟨r, rfl, r0, r1, hst4, hkp4⟩
        obtain ⟨r, rfl⟩ := Int.eq_ofNat_of_zero_le r0
        have HO4 := Lib.hid (own_keeps HO3.out hkp4 (by omega))
        have HK4 := Lib.hid (HK3.out.trans hkp4)
        have HS4 := Lib.hid hst4
        have z4 : w.heap.size ≤ w4.heap.size := HK4.out.size
        have him : i < m := by omega
        have hgl4 : g < w4.heap.size := (HO4.out.lt g rfl).2
        have hcl := HO4.out.1
        clear hst4 hkp4
        have hlen : ys.length = m := by simpa using hcl
        clear hcl
        have hr4 : r = 0 ∨ r = 1 ∨ r = 2 ∨ r = 3 := by omega
        unfold maxLen at hcm
        have j0 : (i : Int) ≤ cap := by omega
        have j1 : (0 : Int) ≤ i := by omega
        have j2 : (i : Int) + 1 ≤ m := by omega
        have j3 : (i : Int) + 1 ≤ cap := by omega
        have j4 : (m : Int) ≤ cap := by omega
        have j5 : ((i : Int) + 1).toNat = i + 1 := by omega
        have j6 : (i : Int) ≤ m := by omega
        have j7 : (0 : Int) ≤ (i : Int) + 1 := by omega
        have CA : Hid (∀ (d j : Nat) u, ((ys.drop d).map (Value.int .u8))[j]? = some u → w4.cell? (⟨g, d + j, none⟩ : Addr) = some u) := by
          show ∀ _, _
          intro d j u hj
          have hl := (List.getElem?_eq_some_iff.1 hj).1
          simp at hl
          rw [HO4.out.cellAt (d + j) (by omega)]
          rw [← hj]
          simp [List.getElem?_drop]
        have BT := fun d => Lib.hid (show Bytes (ys.take d) from fun x hx => HT.out.bytes x (List.mem_of_mem_take hx))
        have BD := fun d => Lib.hid (show Bytes (ys.drop d) from fun x hx => HT.out.bytes x (List.mem_of_mem_drop hx))
        have BTi := BT i
        have BTi1 := BT (i + 1)
        have BDi := BD i
        have BDi1 := BD (i + 1)
        clear BT BD
        rcases hr4 with rfl | rfl | rfl | rfl
        · go_wp2_with fail
          have jw : IntKind.i64.wrap ((i : Int) + 1) = (i : Int) + 1 := IntWalk.i64_in _ (by omega)
          by_cases hci : cap = i + 1
          · have hmi : m = i + 1 := by omega
            subst hmi
            subst hci
            have k1 : (i : Int) ≤ (i : Int) + 1 := by omega
            have k2 : i ≤ i + 1 := by omega
            have k3 : (i : Int) ≤ ((i + 1 : Nat) : Int) := by omega
            clear j0 j2 j3 j4 j6 hmc hcm him i1
            go_region_held3 (fun _ => True) (trivial)
              (first
                | (rw [if_pos (by rfl)]; refine wp_append_own w4.drew (.tmp 41) (.tmp 45) 42 rfl w.heap.size 5 i0 (.int .u8 0) 1 1 Tryd.underlying42 hi hz0 hz1 hz2 rfl (by decide) (.slice (some ⟨g, 0, none⟩) (i) (i + 1)) (i) ((ys.map (Value.int .u8)).take (i)) (by rfl) (own_prefix HO4.out (i) (by omega)) ⟨g, 0, none⟩ (0) (0) ((ys.drop (i + 1)).map (Value.int .u8)) (by rfl) (by simp; omega) (fun j u hj => by rw [List.drop_of_length_le (by omega)] at hj; cases hj) (onecell_ints _ _) (by simp only [maxLen]; omega) (by omega) z4 ?_; intro v5 w5 hown5 hgr5' _; have hgr5 := grown_drew hgr5'))
            clear jw
            have HN : Hid (BuAt S (k + 1) n w w5 v5 (q + 1) (i + 0) (ys.take i ++ ys.drop (i + 1))) := by
              refine ⟨by rw [List.map_append]; simpa using hown5, bytes_append BTi.out BDi1.out, by omega, (HS4.out.upto ((Below.refl (S + 1) w4).grown hgr5 (by omega) (fun b e => by have := (HO4.out.lt b e).1; omega))).mono (by omega), HK4.out.grown0 hgr5 (fun b e => by have := (HO4.out.lt b e).1; omega)⟩
            clear hown5 hgr5 hgr5'
            try clear hHeld
            go_wp2_with fail
            go_roundw
            case rel => exact ⟨q + 1, _, _, by omega, by go_num, HN⟩
            case measure => simp [intOf]; omega
          · have hcj : ¬ cap = i + 1 := hci
            go_region_held3 (fun _ => True) (trivial)
              (first
                | (rw [if_pos (by rfl)]; refine wp_append_own w4.drew (.tmp 41) (.tmp 45) 42 rfl w.heap.size 5 i0 (.int .u8 0) 1 1 Tryd.underlying42 hi hz0 hz1 hz2 rfl (by decide) (.slice (some ⟨g, 0, none⟩) (i) cap) (i) ((ys.map (Value.int .u8)).take (i)) (by rfl) (own_prefix HO4.out (i) (by omega)) ⟨g, i + 1, none⟩ (m - (i + 1)) (cap - (i + 1)) ((ys.drop (i + 1)).map (Value.int .u8)) (by rfl) (by simp; omega) (fun j u hj => by rw [addr_add]; exact CA.out (i + 1) j u hj) (onecell_ints _ _) (by simp only [maxLen]; omega) (by omega) z4 ?_; intro v5 w5 hown5 hgr5' _; have hgr5 := grown_drew hgr5'))
            clear jw
            have HN : Hid (BuAt S (k + 1) n w w5 v5 (q + 1) (i + (m - (i + 1))) (ys.take i ++ ys.drop (i + 1))) := by
              refine ⟨by rw [List.map_append]; simpa using hown5, bytes_append BTi.out BDi1.out, by omega, (HS4.out.upto ((Below.refl (S + 1) w4).grown hgr5 (by omega) (fun b e => by have := (HO4.out.lt b e).1; omega))).mono (by omega), HK4.out.grown0 hgr5 (fun b e => by have := (HO4.out.lt b e).1; omega)⟩
            clear hown5 hgr5 hgr5'
            try clear hHeld
            go_wp2_with fail
            go_roundw
            case rel => exact ⟨q + 1, _, _, by omega, by go_num, HN⟩
            case measure => simp [intOf]; omega
        · go_wp2_with fail
          have jw : IntKind.i64.wrap ((i : Int) + 1) = (i : Int) + 1 := IntWalk.i64_in _ (by omega)
          have hcj : ¬ cap = i := by omega
          go_region_held3 (fun _ => True) (trivial)
            (first
              | (rw [if_pos (by rfl)]; refine wp_append_own w4.drew (.tmp 52) (.tmp 55) 42 rfl w.heap.size 5 i0 (.int .u8 0) 1 1 Tryd.underlying42 hi hz0 hz1 hz2 rfl (by decide) (.slice (some ⟨g, 0, none⟩) (i + 1) cap) (i + 1) ((ys.map (Value.int .u8)).take (i + 1)) (by rfl) (own_prefix HO4.out (i + 1) (by omega)) ⟨g, i, none⟩ (m - i) (cap - i) ((ys.drop i).map (Value.int .u8)) (by rfl) (by simp; omega) (fun j u hj => by rw [addr_add]; exact CA.out i j u hj) (onecell_ints _ _) (by simp only [maxLen]; omega) (by omega) z4 ?_; intro v5 w5 hown5 hgr5' _; have hgr5 := grown_drew hgr5'))
          clear jw
          have HN : Hid (BuAt S (k + 1) n w w5 v5 (q + 1) (i + 1 + (m - i)) (ys.take (i + 1) ++ ys.drop i)) := by
            refine ⟨by rw [List.map_append]; simpa using hown5, bytes_append BTi1.out BDi.out, by omega, (HS4.out.upto ((Below.refl (S + 1) w4).grown hgr5 (by omega) (fun b e => by have := (HO4.out.lt b e).1; omega))).mono (by omega), HK4.out.grown0 hgr5 (fun b e => by have := (HO4.out.lt b e).1; omega)⟩
          clear hown5 hgr5 hgr5'
          try clear hHeld
          go_wp2_with fail
          go_roundw
          case rel => exact ⟨q + 1, _, _, by omega, by go_num, HN⟩
          case measure => simp [intOf]; omega
        · have HN : Hid (BuAt S (k + 1) n w w4 (.slice (some ⟨g, 0, none⟩) i cap) (q + 1) i (ys.take i)) := by
            refine ⟨by rw [List.map_take]; exact own_prefix HO4.out i (by omega), BTi.out, by omega, HS4.out.mono (by omega), HK4.out⟩
          go_wp2_with fail
          go_roundw
          case rel => exact ⟨q + 1, i, _, by omega, by go_num, HN⟩
          case measure => simp [intOf]; omega
        · have cy0 := HO4.out.cellAt i (by omega)
          have hyi : (ys.map (Value.int .u8))[i]? = some (.int .u8 (ys.getD i 0)) := getD_map_int .u8 ys i (by omega)
          have cy := cy0.trans hyi
          obtain ⟨y0, y1⟩ := HT.out.bytes (ys.getD i 0) (mem_getD (by omega))
          generalize ys.getD i 0 = y at cy y0 y1
          have fy := HO4.out.frozenAt i
          clear cy0 hyi
          go_wp2_with fail
          refine region_gen S (k + 1 + 3 * q + 2) 9 [.val (.slice (some ⟨g, 0, none⟩) m cap = ·), .val (.int .i64 (i : Nat) = ·), .val (· = .pointer (some ⟨g, i, none⟩)), .val (.int .u8 y = ·), .val (· = .pointer (some ⟨S, 0, none⟩)), .val (fun x => ∃ r : Nat, x = .int .i64 r ∧ r < 8), .val (fun x => ∃ z : Int, x = .int .u8 z ∧ 0 ≤ z ∧ z ≤ 255), .val (fun x => ∃ z : Int, x = .int .u8 z ∧ 0 ≤ z ∧ z ≤ 255), .val (· = .pointer (some ⟨g, i, none⟩))] [5] [some 28, some 29, some 30, some 31, some 32, some 33, some 34, some 35, some 36] (by kernel_rfl) (by kernel_rfl) (by kernel_rfl) (by kernel_rfl) rfl (by kernel_rfl) HS4.out ⟨?_, ?_, ?_, ?_, ?_, ?_, ?_, ?_, ?_, trivial⟩ ?_
          · intro a w' c hk hst hc hfr hdp K hK
            have f : a.tmps[5]?.getD undef = .slice (some ⟨g, 0, none⟩) m cap := slot_of (hfr 5 (by kernel_rfl))
            refine gen_pure (v := .slice (some ⟨g, 0, none⟩) m cap) ?_ (hK _ _ rfl (Keeps.refl _ _) hst)
            go_simp
          · intro a w' c hk hst hc hfr hdp K hK
            have f : a.tmps[6]?.getD undef = .int .i64 (i : Nat) := slot_of (hfr 6 (by kernel_rfl))
            refine gen_pure (v := .int .i64 (i : Nat)) ?_ (hK _ _ rfl (Keeps.refl _ _) hst)
            go_simp
          · intro a w' c hk hst hc hfr hdp K hK
            have d1 : a.tmps[28]?.getD undef = .slice (some ⟨g, 0, none⟩) m cap := slot_of (hdp 0 28 _ (by kernel_rfl) (by kernel_rfl) rfl).symm
            have d2 : a.tmps[29]?.getD undef = .int .i64 (i : Nat) := slot_of (hdp 1 29 _ (by kernel_rfl) (by kernel_rfl) rfl).symm
            refine gen_pure (v := .pointer (some ⟨g, i, none⟩)) ?_ (hK _ _ rfl (Keeps.refl _ _) hst)
            go_simp
          · intro a w' c hk hst hc hfr hdp K hK
            have d : a.tmps[30]?.getD undef = .pointer (some ⟨g, i, none⟩) := slot_of (hdp 2 30 _ (by kernel_rfl) (by kernel_rfl) rfl)
            have cl : w'.cell? ⟨g, i, none⟩ = some (.int .u8 y) := (hk.cell (p := ⟨g, i, none⟩) (by show g < w4.heap.size; omega) (by show g ≠ S; omega)).trans cy
            refine gen_pure (v := .int .u8 y) ?_ (hK _ _ rfl (Keeps.refl _ _) hst)
            go_simp
          · intro a w' c hk hst hc hfr hdp K hK
            have f : a.tmps[0]?.getD undef = .pointer (some ⟨S, 0, none⟩) := slot_of (hfr 0 (by kernel_rfl))
            refine gen_pure (v := .pointer (some ⟨S, 0, none⟩)) ?_ (hK _ _ rfl (Keeps.refl _ _) hst)
            go_simp
          · intro a w' c hk hst hc hfr hdp K hK
            have d1 : a.tmps[32]?.getD undef = .pointer (some ⟨S, 0, none⟩) := slot_of (hdp 4 32 _ (by kernel_rfl) (by kernel_rfl) rfl)
            have hc2 : c + 1 ≤ 1 := hc
            refine gen_call 38 #[.pointer (some ⟨S, 0, none⟩), .int .i64 8] ?_ (next_any S _ 8 w' hst (by omega) (by omega) (by omega)) ?_
            · clear hK; go_simp
            rintro e w'' ⟨r, rfl, r0, r1, hst2, hkp⟩
            obtain ⟨r, rfl⟩ := Int.eq_ofNat_of_zero_le r0
            exact ⟨_, rfl, hK _ _ ⟨r, rfl, by omega⟩ hkp hst2⟩
          · intro a w' c hk hst hc hfr hdp K hK
            obtain ⟨r, g3, r8⟩ := hdp 5 33 _ (by kernel_rfl) (by kernel_rfl) rfl
            have s3 := slot_of g3
            clear g3
            have hr8 : r = 0 ∨ r = 1 ∨ r = 2 ∨ r = 3 ∨ r = 4 ∨ r = 5 ∨ r = 6 ∨ r = 7 := by omega
            clear r8
            rcases hr8 with rfl | rfl | rfl | rfl | rfl | rfl | rfl | rfl
            · refine gen_pure (v := .int .u8 1) ?_ (hK _ _ ⟨1, rfl, by omega, by omega⟩ (Keeps.refl _ _) hst); clear hK; go_simp; try rfl
            · refine gen_pure (v := .int .u8 2) ?_ (hK _ _ ⟨2, rfl, by omega, by omega⟩ (Keeps.refl _ _) hst); clear hK; go_simp; try rfl
            · refine gen_pure (v := .int .u8 4) ?_ (hK _ _ ⟨4, rfl, by omega, by omega⟩ (Keeps.refl _ _) hst); clear hK; go_simp; try rfl
            · refine gen_pure (v := .int .u8 8) ?_ (hK _ _ ⟨8, rfl, by omega, by omega⟩ (Keeps.refl _ _) hst); clear hK; go_simp; try rfl
            · refine gen_pure (v := .int .u8 16) ?_ (hK _ _ ⟨16, rfl, by omega, by omega⟩ (Keeps.refl _ _) hst); clear hK; go_simp; try rfl
            · refine gen_pure (v := .int .u8 32) ?_ (hK _ _ ⟨32, rfl, by omega, by omega⟩ (Keeps.refl _ _) hst); clear hK; go_simp; try rfl
            · refine gen_pure (v := .int .u8 64) ?_ (hK _ _ ⟨64, rfl, by omega, by omega⟩ (Keeps.refl _ _) hst); clear hK; go_simp; try rfl
            · refine gen_pure (v := .int .u8 128) ?_ (hK _ _ ⟨128, rfl, by omega, by omega⟩ (Keeps.refl _ _) hst); clear hK; go_simp; try rfl
          · intro a w' c hk hst hc hfr hdp K hK
            have d1 : a.tmps[31]?.getD undef = .int .u8 y := slot_of (hdp 3 31 _ (by kernel_rfl) (by kernel_rfl) rfl).symm
            obtain ⟨z, g3, z0, z1⟩ := hdp 6 34 _ (by kernel_rfl) (by kernel_rfl) rfl
            have s3 := slot_of g3
            obtain ⟨x0, x1⟩ := xor_range y z y0 y1 z0 z1
            refine gen_pure (v := .int .u8 (bits .xor .u8 y z)) ?_ (hK _ _ ⟨_, rfl, x0, x1⟩ (Keeps.refl _ _) hst)
            clear g3 hK x0 x1
            go_simp
          · intro a w' c hk hst hc hfr hdp K hK
            have d1 : a.tmps[28]?.getD undef = .slice (some ⟨g, 0, none⟩) m cap := slot_of (hdp 0 28 _ (by kernel_rfl) (by kernel_rfl) rfl).symm
            have d2 : a.tmps[29]?.getD undef = .int .i64 (i : Nat) := slot_of (hdp 1 29 _ (by kernel_rfl) (by kernel_rfl) rfl).symm
            refine gen_pure (v := .pointer (some ⟨g, i, none⟩)) ?_ (hK _ _ rfl (Keeps.refl _ _) hst)
            go_simp
          intro w8 hk8 hst8
          rintro _ rfl _ rfl _ rfl _ rfl _ rfl _ - _ - _ ⟨z, rfl, z0, z1⟩ _ rfl
          simp only [ForVals, Act.put, List.setIfInBounds_toArray, List.set_cons_zero, List.set_cons_succ, List.drop_succ_cons, List.drop_zero]
          have hkd : Keeps S w4 w8 := Keeps.trans (by exact Keeps.of_below (ext_drew (Below.refl _ _))) hk8
          have c8 := (hkd.cell (p := ⟨g, i, none⟩) hgl4 (by show g ≠ S; omega)).trans cy
          have f8 := (hkd.frozen (p := ⟨g, i, none⟩) hgl4 (by show g ≠ S; omega)).trans fy
          have HO8 := Lib.hid (own_keeps HO4.out hkd (by omega))
          have HN : Hid (BuAt S (k + 1) n w (w8.setCell ⟨g, i, none⟩ (.int .u8 z)) (.slice (some ⟨g, 0, none⟩) m cap) (q + 1) m (ys.set i z)) := by
            refine ⟨by rw [List.map_set]; exact (HO8.out.stored i _).1, fun x hx => ?_, by omega, (StreamOk.upto hst8 ((Below.refl (S + 1) w8).setCell (by show S + 1 ≤ g; omega) _)).mono (by show k + 1 + 3 * q + 2 + 1 ≤ _; omega), (HK4.out.trans hkd).setCell_new (by show w.heap.size ≤ g; omega) _⟩
            rcases List.mem_or_eq_of_mem_set hx with h | h
            · exact HT.out.bytes x h
            · omega
          clear hst8 hk8 hkd
          go_wp2_with fail
          go_roundw
          case rel => exact ⟨q + 1, m, _, by omega, by go_num, HN⟩
          case measure => simp [intOf]; omega
    · obtain rfl : q = tot := by omega
      go_wp2_with fail
      go_ret
      exact ⟨_, m, ys, rfl, HT.out.own, HT.out.bytes, by omega, HT.out.stream.mono (by omega), HT.out.keeps⟩
end Go.Proofs.YtlllckclfpdhgaaDoor
