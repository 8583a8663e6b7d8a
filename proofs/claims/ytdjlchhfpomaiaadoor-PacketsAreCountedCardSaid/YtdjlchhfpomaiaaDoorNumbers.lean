/- What is proved here: the long numbers of right arrivals. Condition: what is handed in lies in memory as stated. -/
import Derived.Test.YtdjlchhfpomaiaaDoorCountMath
import Derived.Test.YtdjlchhfpomaiaaDoorArrive
import Derived.Test.YtdjlchhfpomaiaaDoorGreat
set_option linter.unusedVariables false
set_option linter.unusedSimpArgs false
namespace Go.Proofs.YtdjlchhfpomaiaaDoor
open Go.RowKit

theorem and_16 (x : Int) (h0 : -9223372036854775808 ≤ x) (h1 : x ≤ 9223372036854775807) : bits .and .i64 x 65535 = x % 65536 := by
  show IntKind.i64.wrap (((BitVec.ofInt 64 x &&& BitVec.ofInt 64 65535).toNat : Nat) : Int) = _
  rw [BitVec.toNat_and, BitVec.toNat_ofInt, BitVec.toNat_ofInt]
  have e1 : ((65535 : Int) % ((2 ^ 64 : Nat) : Int)).toNat = 2 ^ 16 - 1 := by decide
  rw [e1, Nat.and_two_pow_sub_one_eq_mod, IntKind.wrap_i64]
  have e2 : (((x % ((2 ^ 64 : Nat) : Int)).toNat % 2 ^ 16 : Nat) : Int) = x % 65536 := by
    have h2 : ((2 ^ 64 : Nat) : Int) = 18446744073709551616 := by decide
    rw [h2]
    omega
  rw [e2]
  omega

set_option maxRecDepth 100000 in
theorem near_any (n low : Int) (w : World) (n0 : 0 ≤ n) (n1 : n ≤ 1000000000) (l0 : 0 ≤ low) (l1 : low ≤ 65535) : Calls Tryd.prog 61 #[.int .i64 n, .int .i64 low, .int .i64 65536] w fun e w' => e = .returned (.int .i64 (nearI n low)) ∧ w = w' := by
  have hA := and_16 (low - n) (by omega) (by omega)
  by_cases h : 32768 < (low - n) % 65536
  · have hd : Hid (nearI n low = n + ((low - n) % 65536 - 65536)) := by show _ = _; unfold nearI; rw [if_pos h]
    go_enter Tryd.func61, Tryd.ntmps61
    go_wp2_with fail
    go_ret
    exact ⟨ret_int hd.out.symm, rfl⟩
  · have hd : Hid (nearI n low = n + (low - n) % 65536) := by show _ = _; unfold nearI; rw [if_neg h]
    go_enter Tryd.func61, Tryd.ntmps61
    go_wp2_with fail
    go_ret
    exact ⟨ret_int hd.out.symm, rfl⟩

def seqsOf (l : List Arr) : List Int := l.map (fun x => x.p.seq)
theorem seqsOf_at (l : List Arr) (i : Nat) (h : i < l.length) : (seqsOf l).getD i 0 = (l.getD i noArr).p.seq := by
  simp [seqsOf, List.getD_eq_getElem?_getD, List.getElem?_eq_getElem h]
theorem seqsOf_ok {l : List Arr} (h : ArrOk l) : ∀ i, i < (seqsOf l).length → 0 ≤ (seqsOf l).getD i 0 ∧ (seqsOf l).getD i 0 ≤ 65535 := by
  intro i hi
  have hi2 : i < l.length := by simpa [seqsOf] using hi
  rw [seqsOf_at l i hi2]
  exact ⟨(h.pkt i hi2).s0, (h.pkt i hi2).s1⟩
def numsL (l : List Arr) : List Int := (numsTo (seqsOf l) l.length).2

def NumsPost (l : List Arr) (w : World) (e : Ending) (w' : World) : Prop :=
  ∃ v, e = .returned v ∧ w'.ownsRow w.heap.size 3 1 v l.length ((numsL l).map (Value.int .i64)) ∧ Below w.heap.size w w'

set_option maxRecDepth 100000 in
set_option maxHeartbeats 4000000 in
theorem numbers_any (w : World) (a : Option Addr) (n cap : Nat) (l : List Arr) (hr : ArrRow w a n l) (hok : ArrOk l) :
    Calls Tryd.prog 36 #[.slice a n cap] w (NumsPost l w) := by
  obtain ⟨i0, hi, hz0, hz1, hz2⟩ := info_parts Tryd.infoInt
  have HR := Lib.hid hr
  have HOK := Lib.hid hok
  have hn : n ≤ 2000 := by have := hok.few; have := hr.len; omega
  have HN : Hid (∀ k, k ≤ n → NumsOk (seqsOf l) k (numsTo (seqsOf l) k)) := fun k hk => nums_ok _ (seqsOf_ok hok) k (by simp [seqsOf]; have := hr.len; omega)
  clear hr hok
  go_enter Tryd.func36, Tryd.ntmps36
  go_wp2_with fail
  go_loopw [3, 4, 10] (fun v g it wr => ∃ k : Nat, k ≤ n ∧ it = .int .i64 k ∧ g = .int .i64 (numsTo (seqsOf l) k).1 ∧ Hid (wr.ownsRow w.heap.size 3 1 v k ((numsTo (seqsOf l) k).2.map (Value.int .i64))) ∧ Hid (Below w.heap.size w wr)) (fun _ _ it _ => n - (intOf it).toNat)
  case atStart => exact ⟨0, Nat.zero_le _, rfl, rfl, World.ownsRow_nil _ _ _ _, Below.refl _ _⟩
  case round =>
    obtain ⟨k, hk, rfl, rfl, HO, HB⟩ := hrel
    by_cases hlt : k < n
    · rcases HR.out.row with h0 | ⟨b, off, rfl, hb, hc⟩
      · omega
      have hll : k < l.length := by rw [← HR.out.len]; exact hlt
      obtain ⟨c0, c1, c2, c3, c4, c5, c6⟩ := arr_cells (w := wr) (fun j hj => (HB.out.cell (p := ⟨b, off + k * 7 + j, none⟩) hb).trans (hc k hlt j hj))
      have hs := HOK.out.pkt k hll
      have s0 := hs.s0
      have s1 := hs.s1
      have hst : Hid (numsTo (seqsOf l) (k + 1) = (max (numsTo (seqsOf l) k).1 (if k = 0 then (l.getD k noArr).p.seq + 65536 else nearI (numsTo (seqsOf l) k).1 (l.getD k noArr).p.seq), (numsTo (seqsOf l) k).2 ++ [if k = 0 then (l.getD k noArr).p.seq + 65536 else nearI (numsTo (seqsOf l) k).1 (l.getD k noArr).p.seq])) := by
        show _ = _
        rw [numsTo, seqsOf_at l k hll]
      have g0 := (HN.out k hk).g0
      have g1 := (HN.out k hk).hi
      have HN1 := Lib.hid (HN.out (k + 1) hlt)
      have zb : b < wr.heap.size := by have := HB.out.size; omega
      have hzz := HB.out.size
      have HL := Lib.hid (HN.out k hk).lo
      generalize numsTo (seqsOf l) k = st at hst g0 g1 HO HL
      generalize l.getD k noArr = x at c0 c1 c2 c3 c4 c5 c6 s0 s1 hst
      have hm : Hid (k + 1 ≤ maxLen) := by show _ ≤ _; unfold maxLen; omega
      have HWG : Hid (∀ (o1 o2 : Obj) (w4 : World), ((wr.alloc o1).alloc o2).grownBy w4 u3.ownBlock → Below w.heap.size w w4) := fun o1 o2 w4 hg => HB.out.trans ((((Below.refl w.heap.size wr).alloc hzz o1).alloc (by simp; omega) o2).grown hg (by simp; omega) (fun b e => (HO.out.lt b e).1))
      have HOA := Lib.hid (fun o1 o2 => (HO.out.alloc o1).alloc o2)
      clear hc hs
      by_cases hk0 : k = 0
      · have hn1 : Hid (numsTo (seqsOf l) (k + 1) = (max st.1 (x.p.seq + 65536), st.2 ++ [x.p.seq + 65536])) := by
          show _ = _
          rw [hst.out, if_pos hk0]
        have hk0' : decide (0 < k) = false := by simp; omega
        have HK0 := Lib.hid hk0
        clear hk0
        go_wp2_with (at_builtin; refine wpList_append_own _ rfl (.tmp 29) (.tmp 31) 22 rfl w.heap.size 3 i0 (.int .i64 0) 1 8 Tryd.underlying22 hi hz0 hz1 hz2 rfl (by decide) _ k (st.2.map (Value.int .i64)) rfl (HOA.out _ _) ⟨wr.heap.size + 1, 0, none⟩ 1 1 [.int .i64 (x.p.seq + 65536)] rfl rfl (news_one (by go_simp)) (by simp [Value.oneCell']) hm.out (by omega) (by simp; omega) ?_; intro v4 w4 hown4 hgr4 _)
        have hw4 := HWG.out _ _ _ hgr4
        go_roundw
        case rel => exact ⟨k + 1, hlt, by go_num, by rw [hn1.out], (by show World.ownsRow _ _ _ _ _ _ _; rw [hn1.out, List.map_append]; exact hown4), hw4⟩
        case measure => simp [intOf]; omega
      · have hn1 : Hid (numsTo (seqsOf l) (k + 1) = (max st.1 (nearI st.1 x.p.seq), st.2 ++ [nearI st.1 x.p.seq])) := by
          show _ = _
          rw [hst.out, if_neg hk0]
        have hk0' : 0 < k := by omega
        have hnr := near_facts st.1 x.p.seq s0 s1 (HL.out hk0')
        clear hk0
        go_wp2_with (first | (go_at_call 61; refine (near_any _ _ _ g0 (by omega) s0 s1).mono ?_; rintro e w' ⟨rfl, rfl⟩) | (at_builtin; refine wpList_append_own _ rfl (.tmp 29) (.tmp 31) 22 rfl w.heap.size 3 i0 (.int .i64 0) 1 8 Tryd.underlying22 hi hz0 hz1 hz2 rfl (by decide) _ k (st.2.map (Value.int .i64)) rfl (HOA.out _ _) ⟨wr.heap.size + 1, 0, none⟩ 1 1 [.int .i64 (nearI st.1 x.p.seq)] rfl rfl (news_one (by go_simp)) (by simp [Value.oneCell']) hm.out (by omega) (by simp; omega) ?_; intro v4 w4 hown4 hgr4 _))
        have hw4 := HWG.out _ _ _ hgr4
        go_roundw
        case rel => exact ⟨k + 1, hlt, by go_num, by rw [hn1.out], (by show World.ownsRow _ _ _ _ _ _ _; rw [hn1.out, List.map_append]; exact hown4), hw4⟩
        case measure => simp [intOf]; omega
    · obtain rfl : k = n := by omega
      have hfin : Hid (wr.ownsRow w.heap.size 3 1 u3 l.length ((numsL l).map (Value.int .i64))) := by
        show World.ownsRow _ _ _ _ _ _ _
        unfold numsL
        rw [← HR.out.len]
        exact HO.out
      go_wp2_with fail
      go_ret
      exact ⟨_, rfl, hfin.out, HB.out⟩

theorem own_base {w : World} {base base' : Nat} {e : TypeId} {size : Nat} {v : Value} {n : Nat} {xs : List Value} (h : w.ownsRow base e size v n xs) (hb : base' ≤ base) : w.ownsRow base' e size v n xs := by
  refine ⟨h.1, h.2.imp id ?_⟩
  rintro ⟨g, cap, cur, h1, h2, h3⟩
  exact ⟨g, cap, cur, h1, Nat.le_trans hb h2, h3⟩

set_option maxRecDepth 100000 in
theorem numbersX_any (w : World) (a : Option Addr) (n cap : Nat) (l : List Arr) (hr : ArrRow w a n l) (hok : ArrOk l) :
    Calls Tryd.prog 14 #[.slice a n cap] w (RowPost .i64 3 (numsL l) w) := by
  have HR := Lib.hid hr
  have HOK := Lib.hid hok
  have HLN : Hid ((numsL l).length = l.length) := (nums_ok _ (seqsOf_ok hok) l.length (by simp [seqsOf])).len
  clear hr hok
  go_enter Tryd.func14, Tryd.ntmps14
  go_wp2_with fail
  refine (checkArrivals_ok _ a n cap l HR.out HOK.out).mono ?_
  rintro e w1 ⟨rfl, hb1⟩
  have HB := Lib.hid hb1
  have hsz := hb1.size
  clear hb1
  go_wp2_with fail
  refine (numbers_any _ a n cap l (HR.out.below HB.out) HOK.out).mono ?_
  rintro e w2 ⟨v, rfl, hown, hb2⟩
  have HO : Hid (w2.ownsRow w.heap.size 3 1 v (numsL l).length ((numsL l).map (Value.int .i64))) := by
    show World.ownsRow _ _ _ _ _ _ _
    rw [HLN.out]
    exact own_base hown hsz
  have HB2 := Lib.hid (HB.out.trans (hb2.mono hsz))
  clear hown hb2
  go_wp2_with fail
  go_ret2
  exact ⟨_, rfl, HO.out, HB2.out⟩
end Go.Proofs.YtdjlchhfpomaiaaDoor
