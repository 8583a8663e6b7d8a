/- What is proved here: the walk of the statement PacketsAreCounted: it answers true. Condition: the slice that came in lies in memory, and a table of the library as its initialiser lays it. -/
import Derived.Test.YtdjlchhfpomaiaaDoorRightArr
import Derived.Test.YtdjlchhfpomaiaaDoorLosses
import Derived.Test.YtdjlchhfpomaiaaDoorReady
namespace Go.Proofs.YtdjlchhfpomaiaaDoor
open Go.RowKit
set_option linter.unusedVariables false
set_option linter.unusedSimpArgs false

theorem numsL_len {l : List Arr} (h : ArrOk l) : (numsL l).length = l.length := (nums_ok _ (seqsOf_ok h) l.length (by simp [seqsOf])).len
theorem numsL_at {l : List Arr} (h : ArrOk l) (hl : l.length ≤ 24) (i : Nat) (hi : i < l.length) : 0 ≤ (numsL l).getD i 0 ∧ (numsL l).getD i 0 ≤ 1000000 ∧ (numsL l).getD i 0 % 65536 = (l.getD i noArr).p.seq := by
  have h2 := (nums_ok _ (seqsOf_ok h) l.length (by simp [seqsOf])).each i hi
  rw [seqsOf_at l i hi] at h2
  exact ⟨h2.1, by have := h2.2.1; unfold numsL; omega, h2.2.2⟩

set_option maxRecDepth 100000 in
set_option maxHeartbeats 4000000 in
theorem counted_true (w : World) (a : Option Addr) (len cap : Nat) (zs : List Int) (hr : ArgRow w a len cap zs) (ht : TabAt w) :
    Calls Tryd.prog 4 #[.slice a len cap] w fun e w' => e = .returned (.bool true) ∧ Below w.heap.size w w' := by
  have hst := stream_start hr
  have HT0 := Lib.hid ht
  have HS0 := Lib.hid hst
  clear hr ht hst
  go_enter Tryd.func4, Tryd.ntmps4
  go_wp2_with fail
  refine (rightArrivals_any w.heap.size 0 12 _ HS0.out (by omega) (by omega)).mono ?_
  rintro e w1 ⟨l, aa, ac, rfl, hok, hlen, hW, _, hkp1⟩
  have HOK := Lib.hid hok
  have HR := Lib.hid hW.arrRow_at
  have HK1 := Lib.hid hkp1
  have z1 : w.heap.size + 1 ≤ w1.heap.size := by have := hkp1.size; simp at this; omega
  have hl24 : l.length ≤ 24 := by omega
  clear hok hW hkp1 hlen
  go_wp2_with fail
  refine (numbersX_any _ aa l.length ac l HR.out HOK.out).mono ?_
  rintro e w2 ⟨v2, rfl, hown2, hb2⟩
  rw [numsL_len HOK.out] at hown2
  obtain ⟨a2, c2, hv2, hrow2⟩ := IRow.of_own hown2
  subst hv2
  have HROW := Lib.hid hrow2
  have HB2 := Lib.hid hb2
  have HNL := Lib.hid (numsL_len HOK.out)
  clear hown2 hrow2 hb2
  go_wp2_with fail
  refine (losses_any _ aa l.length ac l (HR.out.below HB2.out) HOK.out).mono ?_
  rintro e w3 ⟨due, mis, tw, lt, jit, rfl, m0, m1, t0, t1, j0, hsum, hb3⟩
  have HB3 := Lib.hid (ext_trans HB2.out hb3)
  have HR3 := Lib.hid (HROW.out.below hb3)
  have q1 : decide (mis < 0) = false := decide_eq_false (by omega)
  have q2 : decide (jit < 0) = false := decide_eq_false (by omega)
  have q3 : ((l.length : Int) - tw + mis != due) = false := by simp; omega
  clear hb3
  go_wp2_with fail
  have HB4 : Hid (Below w1.heap.size w1 (w3.alloc (.cells #[.int .i64 due, .int .i64 mis, .int .i64 tw, .int .i64 lt, .int .i64 jit] 44))) := ext_alloc HB3.out
  have HR4 : Hid (IRow .i64 (w3.alloc (.cells #[.int .i64 due, .int .i64 mis, .int .i64 tw, .int .i64 lt, .int .i64 jit] 44)) a2 l.length (numsL l)) := HR3.out.below (ext_alloc (Below.refl _ _))
  generalize (w3.alloc (.cells #[.int .i64 due, .int .i64 mis, .int .i64 tw, .int .i64 lt, .int .i64 jit] 44)) = w4 at HB4 HR4 ⊢
  clear q1 q2 q3 HR3 HB3 HROW HB2
  go_loop [64] (fun it => ∃ k : Nat, k ≤ l.length ∧ it = .int .i64 k) (fun it => l.length - (intOf it).toNat)
  case atStart => exact ⟨0, Nat.zero_le _, rfl⟩
  case round =>
    obtain ⟨k, hk, rfl⟩ := hrel
    by_cases hlt : k < l.length
    · rcases HR4.out.2 with h0 | ⟨b, off, rfl, hb, hc⟩
      · omega
      rcases (HR.out.below HB4.out).row with h0 | ⟨b2, off2, rfl, hb2, hc2⟩
      · omega
      have c0 := hc k hlt
      obtain ⟨d0, d1, d2, d3, d4, d5, d6⟩ := arr_cells (hc2 k hlt)
      obtain ⟨n0, n1, n2⟩ := numsL_at HOK.out hl24 k hlt
      generalize (numsL l).getD k 0 = x at c0 n0 n1 n2
      generalize (l.getD k noArr) = y at d0 d1 d2 d3 d4 d5 d6 n2
      have n3 : (x % 65536 != y.p.seq) = false := by simp; exact n2
      have n4 : decide (x < 0) = false := decide_eq_false (by omega)
      clear hc hc2 n2 d0 d1 d3 d4 d5 d6
      go_wp2_with fail
      go_round
      case rel => exact ⟨k + 1, by omega, by go_num⟩
      case measure => simp [intOf]; omega
    · have HK4 := Lib.hid (HK1.out.ext HB4.out)
      go_wp2_with fail
      refine (ready_true _ ((HT0.out.below (ext_alloc (Below.refl _ _))).keeps HK4.out (by have := HT0.out.1; omega))).mono ?_
      rintro e w9 ⟨rfl, hB9⟩
      go_wp2_with fail
      go_ret
      exact ⟨rfl, law_end (HK4.out.ext hB9)⟩
end Go.Proofs.YtdjlchhfpomaiaaDoor
