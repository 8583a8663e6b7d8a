/- What is proved here: CheckPacket lets right packets pass; small facts on rows. Condition: what is handed in lies in memory as stated. -/
import Derived.Test.YtdjlchhfpomaiaaDoorGreat
import Derived.Test.YtdjlchhfpomaiaaDoorPacketMath
import Derived.Laws.AppendOwnNone
import Derived.Deep.Onto
import Derived.Deep.RegionHeld3
namespace Go.Proofs.YtdjlchhfpomaiaaDoor
open Go.RowKit
set_option linter.unusedVariables false
set_option linter.unusedSimpArgs false

def pktVal (p : Pkt) (a : Option Addr) (n cap : Nat) : Value := .agg #[.int .i64 p.type, .int .i64 p.seq, .int .i64 p.time, .int .i64 p.src, .bool p.mark, .slice a n cap]

set_option maxRecDepth 100000 in
set_option maxHeartbeats 1000000 in
theorem checkPacket_ok (w : World) (p : Pkt) (a : Option Addr) (n cap : Nat) (h : PktOk p) (hn : n = p.pay.length) :
    Calls Tryd.prog 49 #[pktVal p a n cap] w fun e w' => e = .returned (.int .i64 0) ∧ Below w.heap.size w w' := by
  obtain ⟨t0, t1, s0, s1, i0, i1, c0, c1, _, few⟩ := h
  have n1 : n ≤ 1000 := by omega
  clear hn few
  unfold pktVal
  go_enter Tryd.func49, Tryd.ntmps49
  go_wp2_with (go_at_call 30; refine (within_m _ _ _ _ (by omega) (by omega)).mono ?_; rintro e w' ⟨rfl, rfl⟩)
  go_ret
  exact ⟨rfl, (by (try show Below _ _ _); repeat (with_reducible first | exact Below.refl _ _ | assumption | exact Hid.out (by assumption) | refine ext_alloc ?_ | refine ext_drewN ?_ | refine ext_drew ?_ | refine ext_setCell ?_ (Nat.le_refl _) | refine ext_setCell ?_ (Nat.le_succ _) | refine ext_trans ?_ (by assumption) | (refine ext_setCell ?_ (by simp)) | (refine ext_setCell ?_ (by simp at *; omega))))⟩

theorem irow_news {k : IntKind} {w : World} {ad : Addr} {n : Nat} {xs : List Int} (h : IRow k w (some ad) n xs) : ∀ (j : Nat) u, (xs.map (Value.int k))[j]? = some u → w.cell? (ad.add j) = some u := by
  intro j u hj
  have hlt : j < xs.length := by
    have := (List.getElem?_eq_some_iff.1 hj).1
    simpa using this
  obtain ⟨hn, h0 | ⟨b, off, ha, hb, hc⟩⟩ := h
  · omega
  · cases ha
    have hp : (⟨b, off, none⟩ : Addr).add j = ⟨b, off + j, none⟩ := by unfold Addr.add; split <;> simp_all
    rw [hp, hc j (by omega)]
    rw [getD_map_int k xs j hlt] at hj
    exact hj

theorem addr_add (b off j : Nat) : (⟨b, off, none⟩ : Addr).add j = ⟨b, off + j, none⟩ := by unfold Addr.add; split <;> simp_all
theorem grown_cell {X w1 : World} {row : Option Nat} {b o : Nat} (h : X.grownBy w1 row) (hb : b < X.heap.size) (hn : row ≠ some b) : w1.cell? ⟨b, o, none⟩ = X.cell? ⟨b, o, none⟩ := World.cell?_of_block (w := X) (a := ⟨b, o, none⟩) (h.block b hb (fun e => hn e.symm))
theorem grown_frozen {X w1 : World} {row : Option Nat} {b o : Nat} (h : X.grownBy w1 row) (hb : b < X.heap.size) (hn : row ≠ some b) : w1.frozen? ⟨b, o, none⟩ = X.frozen? ⟨b, o, none⟩ := World.frozen?_of_block (w := X) (a := ⟨b, o, none⟩) (h.block b hb (fun e => hn e.symm))
theorem onecell_ints (k : IntKind) (xs : List Int) : ∀ u ∈ xs.map (Value.int k), u.oneCell' = true := by
  intro u hu; obtain ⟨x, _, rfl⟩ := List.mem_map.1 hu; rfl
theorem own_slice0 {w : World} {base : Nat} {e : TypeId} {size : Nat} {v : Value} {n : Nat} {xs : List Value} (h : w.ownsRow base e size v n xs) : ∃ a c, v = .slice a n c := by
  rcases h.2 with ⟨rfl, rfl⟩ | ⟨g, cap, cur, rfl, _⟩
  · exact ⟨none, 0, rfl⟩
  · exact ⟨_, _, rfl⟩
theorem own_nil {w : World} {base : Nat} {e : TypeId} {size : Nat} {a : Option Addr} {m c n : Nat} {xs : List Value} (h : w.ownsRow base e size (.slice a m c) n xs) (ha : a = none) : m = 0 ∧ c = 0 := by
  rcases h.2 with ⟨h6, h7⟩ | ⟨g, cc, cu, h6, _⟩
  · injection h6 with h8 h9 h10
    exact ⟨h9, h10⟩
  · injection h6 with h8 h9 h10
    rw [ha] at h8; cases h8

/-- A packet in the making, in block T: its payload lies behind it. -/
structure PkAt (S K T : Nat) (w2 wr : World) (t s i c : Int) (mk : Bool) (v : Value) (q : Nat) (xs : List Int) : Prop where
  c0 : wr.cell? ⟨T, 0, none⟩ = some (.int .i64 t)
  c1 : wr.cell? ⟨T, 1, none⟩ = some (.int .i64 s)
  c2 : wr.cell? ⟨T, 2, none⟩ = some (.int .i64 i)
  c3 : wr.cell? ⟨T, 3, none⟩ = some (.int .i64 c)
  c4 : wr.cell? ⟨T, 4, none⟩ = some (.bool mk)
  c5 : wr.cell? ⟨T, 5, none⟩ = some v
  fro : ∀ j, wr.frozen? ⟨T, j, none⟩ = false
  own : wr.ownsRow (T + 1) 5 1 v q (xs.map (Value.int .u8))
  bytes : Bytes xs
  keeps : Keeps S w2 wr
  stream : StreamOk wr S (K + q)
  size : T < wr.heap.size

theorem PkAt.kept {S K T : Nat} {w2 wr w' : World} {t s i c : Int} {mk : Bool} {v : Value} {q : Nat} {xs : List Int} (h : PkAt S K T w2 wr t s i c mk v q xs) (hS : S < T) (hk : Keeps S wr w') : (w'.cell? ⟨T, 0, none⟩ = some (.int .i64 t) ∧ w'.cell? ⟨T, 1, none⟩ = some (.int .i64 s) ∧ w'.cell? ⟨T, 2, none⟩ = some (.int .i64 i) ∧ w'.cell? ⟨T, 3, none⟩ = some (.int .i64 c) ∧ w'.cell? ⟨T, 4, none⟩ = some (.bool mk) ∧ w'.cell? ⟨T, 5, none⟩ = some v) ∧ (∀ j, w'.frozen? ⟨T, j, none⟩ = false) ∧ w'.ownsRow (T + 1) 5 1 v q (xs.map (Value.int .u8)) ∧ Keeps S w2 w' ∧ T < w'.heap.size := by
  have cc := fun j => hk.cell (p := ⟨T, j, none⟩) h.size (by show T ≠ S; omega)
  exact ⟨⟨(cc 0).trans h.c0, (cc 1).trans h.c1, (cc 2).trans h.c2, (cc 3).trans h.c3, (cc 4).trans h.c4, (cc 5).trans h.c5⟩, fun j => (hk.frozen (p := ⟨T, j, none⟩) h.size (by show T ≠ S; omega)).trans (h.fro j), own_keeps h.own hk (by omega), h.keeps.trans hk, Nat.lt_of_lt_of_le h.size hk.size⟩

end Go.Proofs.YtdjlchhfpomaiaaDoor
