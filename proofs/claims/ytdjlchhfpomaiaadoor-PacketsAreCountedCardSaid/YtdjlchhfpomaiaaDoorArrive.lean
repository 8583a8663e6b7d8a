/- What is proved here: CheckArrivals lets right arrivals pass; the difference of two times. Condition: what is handed in lies in memory as stated. -/
import Derived.Test.YtdjlchhfpomaiaaDoorPktBase
import Derived.Test.YtdjlchhfpomaiaaDoorReadyV
namespace Go.Proofs.YtdjlchhfpomaiaaDoor
open Go.RowKit
set_option linter.unusedVariables false
set_option linter.unusedSimpArgs false

structure Arr where
  at_ : Int
  p : Pkt
  pa : Option Addr
  pn : Nat
  pc : Nat
def Arr.cells (x : Arr) : List Value := [.int .i64 x.at_, .int .i64 x.p.type, .int .i64 x.p.seq, .int .i64 x.p.time, .int .i64 x.p.src, .bool x.p.mark, .slice x.pa x.pn x.pc]
def noArr : Arr := ⟨0, ⟨0, 0, 0, 0, false, []⟩, none, 0, 0⟩

/-- Arrivals that lie in memory. -/
structure ArrRow (w : World) (a : Option Addr) (n : Nat) (l : List Arr) : Prop where
  len : n = l.length
  row : n = 0 ∨ ∃ b off, a = some ⟨b, off, none⟩ ∧ b < w.heap.size ∧ ∀ i, i < n → ∀ j, j < 7 → w.cell? ⟨b, off + i * 7 + j, none⟩ = (l.getD i noArr).cells[j]?
  pays : ∀ i, i < n → IRow .u8 w (l.getD i noArr).pa (l.getD i noArr).pn (l.getD i noArr).p.pay

theorem ArrRow.below {w w' : World} {a : Option Addr} {n : Nat} {l : List Arr} (h : ArrRow w a n l) (hb : Below w.heap.size w w') : ArrRow w' a n l := by
  refine ⟨h.len, h.row.imp id ?_, fun i hi => (h.pays i hi).below hb⟩
  rintro ⟨b, off, ha, hl, hc⟩
  exact ⟨b, off, ha, Nat.lt_of_lt_of_le hl hb.size, fun i hi j hj => (hb.cell (p := ⟨b, off + i * 7 + j, none⟩) hl).trans (hc i hi j hj)⟩

structure ArrOk (l : List Arr) : Prop where
  few : l.length ≤ 2000
  at0 : ∀ i, i < l.length → 0 ≤ (l.getD i noArr).at_
  at1 : ∀ i, i < l.length → (l.getD i noArr).at_ ≤ 345686399999
  pkt : ∀ i, i < l.length → PktOk (l.getD i noArr).p
  ord : ∀ i, 0 < i → i < l.length → (l.getD (i - 1) noArr).at_ ≤ (l.getD i noArr).at_
  src : ∀ i, i < l.length → (l.getD i noArr).p.src = (l.getD 0 noArr).p.src

def apartI (a b : Int) : Int := if (a - b) % 4294967296 < 2147483648 then (a - b) % 4294967296 else (a - b) % 4294967296 - 4294967296

theorem apartI_range (a b : Int) : -2147483648 ≤ apartI a b ∧ apartI a b < 2147483648 := by
  unfold apartI
  split <;> omega
theorem and_32 (x : Int) (h0 : -9223372036854775808 ≤ x) (h1 : x ≤ 9223372036854775807) : bits .and .i64 x 4294967295 = x % 4294967296 := by
  show IntKind.i64.wrap (((BitVec.ofInt 64 x &&& BitVec.ofInt 64 4294967295).toNat : Nat) : Int) = _
  rw [BitVec.toNat_and, BitVec.toNat_ofInt, BitVec.toNat_ofInt]
  have e1 : ((4294967295 : Int) % ((2 ^ 64 : Nat) : Int)).toNat = 2 ^ 32 - 1 := by decide
  rw [e1, Nat.and_two_pow_sub_one_eq_mod, IntKind.wrap_i64]
  have e2 : (((x % ((2 ^ 64 : Nat) : Int)).toNat % 2 ^ 32 : Nat) : Int) = x % 4294967296 := by
    have h2 : ((2 ^ 64 : Nat) : Int) = 18446744073709551616 := by decide
    rw [h2]
    omega
  rw [e2]
  omega

set_option maxRecDepth 100000 in
theorem apart_any (a b : Int) (w : World) (a0 : 0 ≤ a) (a1 : a ≤ 4294967295) (b0 : 0 ≤ b) (b1 : b ≤ 4294967295) : Calls Tryd.prog 31 #[.int .i64 a, .int .i64 b] w fun e w' => e = .returned (.int .i64 (apartI a b)) ∧ w = w' := by
  have hA := and_32 (a - b) (by omega) (by omega)
  by_cases h : (a - b) % 4294967296 < 2147483648
  · have hd : Hid (apartI a b = (a - b) % 4294967296) := by show _ = _; unfold apartI; rw [if_pos h]
    go_enter Tryd.func31, Tryd.ntmps31
    go_wp2_with fail
    go_ret
    exact ⟨ret_int hd.out.symm, rfl⟩
  · have hd : Hid (apartI a b = (a - b) % 4294967296 - 4294967296) := by show _ = _; unfold apartI; rw [if_neg h]
    go_enter Tryd.func31, Tryd.ntmps31
    go_wp2_with fail
    go_ret
    exact ⟨ret_int hd.out.symm, rfl⟩

theorem arr_cells {w : World} {b o : Nat} {x : Arr} (h : ∀ j, j < 7 → w.cell? ⟨b, o + j, none⟩ = x.cells[j]?) : w.cell? ⟨b, o, none⟩ = some (.int .i64 x.at_) ∧ w.cell? ⟨b, o + 1, none⟩ = some (.int .i64 x.p.type) ∧ w.cell? ⟨b, o + 2, none⟩ = some (.int .i64 x.p.seq) ∧ w.cell? ⟨b, o + 3, none⟩ = some (.int .i64 x.p.time) ∧ w.cell? ⟨b, o + 4, none⟩ = some (.int .i64 x.p.src) ∧ w.cell? ⟨b, o + 5, none⟩ = some (.bool x.p.mark) ∧ w.cell? ⟨b, o + 6, none⟩ = some (.slice x.pa x.pn x.pc) :=
  ⟨h 0 (by omega), h 1 (by omega), h 2 (by omega), h 3 (by omega), h 4 (by omega), h 5 (by omega), h 6 (by omega)⟩

set_option maxRecDepth 100000 in
set_option maxHeartbeats 4000000 in
theorem checkArrivals_ok (w : World) (a : Option Addr) (n cap : Nat) (l : List Arr) (hr : ArrRow w a n l) (hok : ArrOk l) :
    Calls Tryd.prog 29 #[.slice a n cap] w fun e w' => e = .returned (.int .i64 0) ∧ Below w.heap.size w w' := by
  have HR := Lib.hid hr
  have HOK := Lib.hid hok
  have hn : n ≤ 2000 := by have := hok.few; have := hr.len; omega
  clear hr hok
  go_enter Tryd.func29, Tryd.ntmps29
  go_wp2_with fail
  go_loopw [11] (fun it wr => ∃ k : Nat, k ≤ n ∧ it = .int .i64 k ∧ Hid (Below w.heap.size w wr)) (fun it _ => n - (intOf it).toNat)
  case atStart => exact ⟨0, Nat.zero_le _, rfl, Below.refl _ _⟩
  case round =>
    obtain ⟨k, hk, rfl, HB⟩ := hrel
    by_cases hlt : k < n
    · rcases HR.out.row with h0 | ⟨b, off, rfl, hb, hc⟩
      · omega
      have hll : k < l.length := by rw [← HR.out.len]; exact hlt
      obtain ⟨c0, c1, c2, c3, c4, c5, c6⟩ := arr_cells (w := wr) (fun j hj => (HB.out.cell (p := ⟨b, off + k * 7 + j, none⟩) hb).trans (hc k hlt j hj))
      have d4 : wr.cell? ⟨b, off + 4, none⟩ = some (.int .i64 (l.getD 0 noArr).p.src) := by
        have := (HB.out.cell (p := ⟨b, off + 0 * 7 + 4, none⟩) hb).trans (hc 0 (by omega) 4 (by omega))
        simpa [Arr.cells] using this
      have HX : Hid (0 < k → wr.cell? ⟨b, off + (k - 1) * 7, none⟩ = some (.int .i64 (l.getD (k - 1) noArr).at_)) := fun h0 => (HB.out.cell (p := ⟨b, off + (k - 1) * 7 + 0, none⟩) hb).trans (hc (k - 1) (by omega) 0 (by omega))
      have HO : Hid (0 < k → (l.getD (k - 1) noArr).at_ ≤ (l.getD k noArr).at_) := fun h0 => HOK.out.ord k h0 hll
      have hsrc := HOK.out.src k hll
      have hpk := HOK.out.pkt k hll
      have ha0 := HOK.out.at0 k hll
      have ha1 := HOK.out.at1 k hll
      have hpl := (HR.out.pays k hlt).1
      have zb : b < wr.heap.size := by have := HB.out.size; omega
      have hzz := HB.out.size
      rw [← hsrc] at d4
      generalize l.getD k noArr = x at c0 c1 c2 c3 c4 c5 c6 d4 HO hpk ha0 ha1 hpl
      generalize l.getD (k - 1) noArr = y at HX HO
      have HPK := Lib.hid hpk
      have HPL := Lib.hid hpl
      clear hc hsrc hpk hpl
      have hmom : isMomB x.at_ = true := by unfold isMomB; simp; omega
      go_wp2_with fail
      refine (isMoment_any _ _).mono ?_
      rw [hmom]
      rintro e w' ⟨rfl, rfl⟩
      go_wp2_with fail
      refine (checkPacket_ok _ x.p x.pa x.pn x.pc HPK.out HPL.out).mono ?_
      rintro e w2 ⟨rfl, hb2⟩
      have x0 := (hb2.cell (p := ⟨wr.heap.size, 0, none⟩) (by simp)).trans (show _ = some (.int .i64 x.at_) by go_simp)
      have x4 := (hb2.cell (p := ⟨wr.heap.size, 4, none⟩) (by simp)).trans (show _ = some (.int .i64 x.p.src) by go_simp)
      have d4' := (hb2.cell (p := ⟨b, off + 4, none⟩) (by simp; omega)).trans (((ext_alloc (Below.refl _ wr)).cell (p := ⟨b, off + 4, none⟩) zb).trans d4)
      have HX' : Hid (0 < k → w2.cell? ⟨b, off + (k - 1) * 7, none⟩ = some (.int .i64 y.at_)) := fun h0 => (hb2.cell (p := ⟨b, off + (k - 1) * 7, none⟩) (by simp; omega)).trans (((ext_alloc (Below.refl _ wr)).cell (p := ⟨b, off + (k - 1) * 7, none⟩) zb).trans (HX.out h0))
      have HB2 : Hid (Below w.heap.size w w2) := HB.out.trans (Below.mono (ext_trans (ext_alloc (Below.refl _ wr)) hb2) hzz)
      have e1 : (0 : Int) < n := by omega
      have e2 : 0 < n := by omega
      have hss : (x.p.src != x.p.src) = false := by simp
      clear hb2 c0 c1 c2 c3 c4 c5 c6 d4 hmom
      by_cases hk0 : k = 0
      · subst hk0
        go_wp2_with fail
        go_quiet (fail)
        go_wp2_with fail
        go_quiet (fail)
        go_wp2_with fail
        go_roundw
        case rel => exact ⟨1, by omega, rfl, ext_drewN HB2.out⟩
        case measure => simp [intOf]; omega
      · have p0 := HX'.out (by omega)
        have kp : (0 : Int) < (k : Int) := by omega
        have kp2 : 0 < k := by omega
        have kq : ((k : Int) - 1).toNat = k - 1 := by omega
        have kr : 0 ≤ (k : Int) - 1 := by omega
        have ks : (k : Int) - 1 < n := by omega
        have ho := HO.out kp2
        have hno : decide (x.at_ < y.at_) = false := by simpa using ho
        go_wp2_with fail
        go_quiet (fail)
        go_wp2_with fail
        go_quiet (fail)
        go_wp2_with fail
        go_roundw
        case rel => exact ⟨k + 1, by omega, by go_num, ext_drewN HB2.out⟩
        case measure => simp [intOf]; omega
    · go_wp2_with fail
      go_ret
      exact ⟨rfl, HB.out⟩
end Go.Proofs.YtdjlchhfpomaiaaDoor
