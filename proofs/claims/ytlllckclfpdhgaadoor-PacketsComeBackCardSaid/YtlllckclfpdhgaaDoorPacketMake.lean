/- What is proved here: SamePacket of packets that are one; the packets that a stream makes. Condition: what is handed in lies in memory as stated. -/
import Derived.Test.YtlllckclfpdhgaaDoorPacketRead
import Derived.Test.YtlllckclfpdhgaaDoorEquals
import Derived.Test.YtlllckclfpdhgaaDoorGenPick
namespace Go.Proofs.YtlllckclfpdhgaaDoor
open Go.RowKit
set_option linter.unusedVariables false
set_option linter.unusedSimpArgs false

theorem eq4' (n : Nat) (a b c d : Int) (w : World) : (Op.equalIn (n + 1 + 1) 109 (.agg #[.int .i64 a, .int .i64 b, .int .i64 c, .int .i64 d]) (.agg #[.int .i64 a, .int .i64 b, .int .i64 c, .int .i64 d])).run Tryd.prog w = .ok true w := by
  have hs : ∀ (m : Nat) (x : Int) (w : World), (Op.equalIn (m + 1) 3 (.int .i64 x) (.int .i64 x)).run Tryd.prog w = .ok true w := fun m x w => by rw [run_equalIn_int w m 3 .i64 .i64 x x Tryd.underlying3]; simp
  have hz : ∀ w, (sizeOf 3).run Tryd.prog w = .ok 1 w := fun w => by kernel_rfl
  have p0 : ∀ w, (part 3 #[.int .i64 a, .int .i64 b, .int .i64 c, .int .i64 d] 0).run Tryd.prog w = .ok (.int .i64 a) w := fun w => by kernel_rfl
  have p1 : ∀ w, (part 3 #[.int .i64 a, .int .i64 b, .int .i64 c, .int .i64 d] 1).run Tryd.prog w = .ok (.int .i64 b) w := fun w => by kernel_rfl
  have p2 : ∀ w, (part 3 #[.int .i64 a, .int .i64 b, .int .i64 c, .int .i64 d] 2).run Tryd.prog w = .ok (.int .i64 c) w := fun w => by kernel_rfl
  have p3 : ∀ w, (part 3 #[.int .i64 a, .int .i64 b, .int .i64 c, .int .i64 d] 3).run Tryd.prog w = .ok (.int .i64 d) w := fun w => by kernel_rfl
  rw [Op.equalIn]
  simp [Sem.run_bind, run_underlying Tryd.underlying109, hz, hs, p0, p1, p2, p3, Std.Legacy.Range.forIn_eq_forIn_range', Std.Legacy.Range.size, List.range'_succ]
theorem eq4 (a b c d : Int) (w : World) : (Op.equalIn 10000 109 (.agg #[.int .i64 a, .int .i64 b, .int .i64 c, .int .i64 d]) (.agg #[.int .i64 a, .int .i64 b, .int .i64 c, .int .i64 d])).run Tryd.prog w = .ok true w := eq4' 9998 a b c d w

set_option maxRecDepth 100000 in
set_option maxHeartbeats 4000000 in
theorem same_true (w : World) (p : Pkt) (a a2 : Option Addr) (n cap n2 cap2 : Nat) (hr : IRow .u8 w a n p.pay) (hr2 : IRow .u8 w a2 n2 p.pay) (hn : n ≤ 100000) :
    Calls Tryd.prog 19 #[pktVal p a n cap, pktVal p a2 n2 cap2] w fun e w' => e = .returned (.bool true) ∧ Below w.heap.size w w' := by
  have HR := Lib.hid hr
  have HR2 := Lib.hid hr2
  clear hr hr2
  have hq := eq4 p.type p.seq p.time p.src
  unfold pktVal
  go_enter Tryd.func19, Tryd.ntmps19
  go_wp2_with fail
  refine (equal_bytes _ a a2 n cap n2 cap2 p.pay (HR.out.below (ext_alloc (ext_alloc (Below.refl _ _)))) (HR2.out.below (ext_alloc (ext_alloc (Below.refl _ _)))) (by omega)).mono ?_
  rintro e w1 ⟨rfl, q, rfl⟩
  go_wp2_with fail
  go_ret
  exact ⟨rfl, (by (try show Below _ _ _); repeat (with_reducible first | exact Below.refl _ _ | assumption | exact Hid.out (by assumption) | refine ext_alloc ?_ | refine ext_drewN ?_ | refine ext_drew ?_ | refine ext_setCell ?_ (Nat.le_refl _) | refine ext_setCell ?_ (Nat.le_succ _) | refine ext_trans ?_ (by assumption) | (refine ext_setCell ?_ (by simp)) | (refine ext_setCell ?_ (by simp at *; omega))))⟩
end Go.Proofs.YtlllckclfpdhgaaDoor
