/- What is proved here: the walk of the statement PacketsComeBack: it answers true. Condition: the slice that came in lies in memory, and a table of the library as its initialiser lays it. -/
import Derived.Test.YtlllckclfpdhgaaDoorPacketDraw
import Derived.Test.YtlllckclfpdhgaaDoorReady
namespace Go.Proofs.YtlllckclfpdhgaaDoor
open Go.RowKit
set_option linter.unusedVariables false
set_option linter.unusedSimpArgs false

theorem encode_bytes {p : Pkt} (h : PktOk p) : Bytes (encode p) := by
  have h2 := second_range h
  have h3 := h.pay
  rw [encode_eq]
  intro x hx
  simp only [List.mem_cons] at hx
  rcases hx with rfl | rfl | rfl | rfl | rfl | rfl | rfl | rfl | rfl | rfl | rfl | rfl | hx
  all_goals first | exact h3 x hx | omega

theorem read_good {B : Nat} (w : World) (a : Option Addr) (n cap : Nat) (xs : List Int) (h : Cur B w a n cap xs) (h12 : 12 ≤ n) (hbig : n ≤ 1012) (hx : xs.getD 0 0 = 128) : Calls Tryd.prog 18 #[.slice a n cap] w (ReadOk xs w) := by
  obtain ⟨hl, h0 | ⟨b, off, rfl, hb, hcell⟩⟩ := h.row
  · omega
  · by_cases hc12 : cap = 12
    · exact read_ok12 w b off n cap hc12 xs hl.symm (by omega) hbig h.le h.cap h.bytes hx hcell
    · exact read_ok w b off n cap hc12 xs hl.symm (by omega) hbig h.le h.cap h.bytes hx hcell

/-- ReadPacket at any bytes. -/
def ReadAny (xs : List Int) (w : World) (e : Ending) (w' : World) : Prop := ReadBad w e w' ∨ (12 ≤ xs.length ∧ xs.length ≤ 1012 ∧ xs.getD 0 0 = 128 ∧ ReadOk xs w e w')
theorem read_any {B : Nat} (w : World) (a : Option Addr) (n cap : Nat) (xs : List Int) (h : Cur B w a n cap xs) : Calls Tryd.prog 18 #[.slice a n cap] w (ReadAny xs w) := by
  by_cases h12 : n < 12
  · exact (read_short w a n cap h12).mono fun e w' h => Or.inl h
  · obtain ⟨hl, h0 | ⟨b, off, rfl, hb, hcell⟩⟩ := h.row
    · omega
    · have c0 := hcell 0 (by omega)
      by_cases hx : xs.getD 0 0 = 128
      · by_cases hbig : n ≤ 1012
        · by_cases hc12 : cap = 12
          · exact (read_ok12 w b off n cap hc12 xs hl.symm (by omega) hbig h.le h.cap h.bytes hx hcell).mono fun e w' h => Or.inr ⟨by omega, by omega, hx, h⟩
          · exact (read_ok w b off n cap hc12 xs hl.symm (by omega) hbig h.le h.cap h.bytes hx hcell).mono fun e w' h => Or.inr ⟨by omega, by omega, hx, h⟩
        · rw [hx] at c0
          exact (read_large w b off n cap (by omega) (by have := h.few; omega) c0).mono fun e w' h => Or.inl h
      · exact (read_form w b off n cap _ (by omega) c0 (by simpa using hx)).mono fun e w' h => Or.inl h

set_option maxRecDepth 100000 in
set_option maxHeartbeats 4000000 in
theorem packets_true (w : World) (a : Option Addr) (len cap : Nat) (zs : List Int) (hr : ArgRow w a len cap zs) (ht : TabAt w) :
    Calls Tryd.prog 4 #[.slice a len cap] w fun e w' => e = .returned (.bool true) ∧ Below w.heap.size w w' := by
  have hst := stream_start hr
  have HT := Lib.hid ht
  have HS0 := Lib.hid hst
  clear hr ht hst
  go_enter Tryd.func4, Tryd.ntmps4
  go_wp2_with fail
  refine (rightPacket_any w.heap.size 0 _ HS0.out (by omega)).mono ?_
  rintro e w1 ⟨p, pa, pn, pc, rfl, hok, hrow, hnil, hat, hn5, hst1, hkp1⟩
  have HOK := Lib.hid hok
  have HR1 := Lib.hid hrow
  have HN1 := Lib.hid hnil
  have HS1 := Lib.hid hst1
  have HK1 := Lib.hid hkp1
  have z1 : w.heap.size + 1 ≤ w1.heap.size := by have := hkp1.size; simp at this; omega
  have HNE : Hid (∀ b off, pa = some ⟨b, off, none⟩ → b ≠ w.heap.size) := fun b off e => by have := hat b off e; simp at this; omega
  clear hok hrow hnil hst1 hkp1 hat
  unfold pktVal
  go_wp2_with fail
  refine (write_any _ p pa pn pc HOK.out (HR1.out.below (ext_alloc (Below.refl _ _))) HN1.out).mono ?_
  rintro e w2 ⟨v2, rfl, hown2, hb2⟩
  obtain ⟨a2, c2, rfl, hc2⟩ := cur_of_own (B := 0) hown2 (encode_bytes HOK.out) (by have := HOK.out.few; omega) (by omega)
  have HC2 := Lib.hid hc2
  have hp2 : ∀ j, w2.cell? ⟨w1.heap.size, j, none⟩ = (w1.alloc (.cells #[.int .i64 p.type, .int .i64 p.seq, .int .i64 p.time, .int .i64 p.src, .bool p.mark, .slice pa pn pc] 44)).cell? ⟨w1.heap.size, j, none⟩ := fun j => hb2.cell (p := ⟨w1.heap.size, j, none⟩) (by simp)
  have HB2 : Hid (Below w1.heap.size w1 w2) := (by (try show Below _ _ _); repeat (with_reducible first | exact Below.refl _ _ | assumption | exact Hid.out (by assumption) | refine ext_alloc ?_ | refine ext_drewN ?_ | refine ext_drew ?_ | refine ext_setCell ?_ (Nat.le_refl _) | refine ext_setCell ?_ (Nat.le_succ _) | refine ext_trans ?_ (by assumption) | (refine ext_setCell ?_ (by simp)) | (refine ext_setCell ?_ (by simp at *; omega))))
  have z2 : w1.heap.size + 1 ≤ w2.heap.size := by have := hb2.size; simp at this; omega
  have HP2 := Lib.hid hp2
  have HF2 := Lib.hid (fun j => hb2.frozen (p := ⟨w1.heap.size, j, none⟩) (by simp))
  clear hown2 hb2 hc2 hp2
  go_wp2_with fail
  refine (read_good _ a2 _ c2 (encode p) HC2.out (by omega) (by have := HOK.out.few; omega) (by rw [encode_eq]; rfl)).mono ?_
  rintro e w3 ⟨qa, qn, qc, rfl, hqr, hqn, hqa, hb3⟩
  rw [decode_encode HOK.out] at *
  have p0 : w3.cell? ⟨w1.heap.size, 0, none⟩ = some (.int .i64 p.type) := (hb3.cell (p := ⟨w1.heap.size, 0, none⟩) (by show w1.heap.size < _; omega)).trans ((HP2.out 0).trans (by go_simp))
  have p1 : w3.cell? ⟨w1.heap.size, 1, none⟩ = some (.int .i64 p.seq) := (hb3.cell (p := ⟨w1.heap.size, 1, none⟩) (by show w1.heap.size < _; omega)).trans ((HP2.out 1).trans (by go_simp))
  have p2 : w3.cell? ⟨w1.heap.size, 2, none⟩ = some (.int .i64 p.time) := (hb3.cell (p := ⟨w1.heap.size, 2, none⟩) (by show w1.heap.size < _; omega)).trans ((HP2.out 2).trans (by go_simp))
  have p3 : w3.cell? ⟨w1.heap.size, 3, none⟩ = some (.int .i64 p.src) := (hb3.cell (p := ⟨w1.heap.size, 3, none⟩) (by show w1.heap.size < _; omega)).trans ((HP2.out 3).trans (by go_simp))
  have p4 : w3.cell? ⟨w1.heap.size, 4, none⟩ = some (.bool p.mark) := (hb3.cell (p := ⟨w1.heap.size, 4, none⟩) (by show w1.heap.size < _; omega)).trans ((HP2.out 4).trans (by go_simp))
  have p5 : w3.cell? ⟨w1.heap.size, 5, none⟩ = some (.slice pa pn pc) := (hb3.cell (p := ⟨w1.heap.size, 5, none⟩) (by show w1.heap.size < _; omega)).trans ((HP2.out 5).trans (by go_simp))
  have HB3 : Hid (Below w1.heap.size w1 w3) := HB2.out.trans (hb3.mono (by omega))
  have HQR := Lib.hid hqr
  have z3 : w2.heap.size ≤ w3.heap.size := hb3.size
  have y3 : w1.heap.size < w3.heap.size := by omega
  have HPL : Hid (pn = p.pay.length) := HR1.out.1
  have HF3 := Lib.hid (fun j => (hb3.frozen (p := ⟨w1.heap.size, j, none⟩) (by show w1.heap.size < _; omega)).trans (HF2.out j))
  clear hb3 hqr HP2
  unfold pktVal
  go_wp2_with fail
  refine (same_true _ p pa qa pn pc qn qc (HR1.out.below (ext_alloc HB3.out)) (HQR.out.below (ext_alloc (Below.refl _ _))) (by omega)).mono ?_
  rintro e w4 ⟨rfl, hb4⟩
  have e4 : ∀ j, w4.cell? ⟨w1.heap.size, j, none⟩ = w3.cell? ⟨w1.heap.size, j, none⟩ := fun j => (hb4.cell (p := ⟨w1.heap.size, j, none⟩) (by show w1.heap.size < _; simp; omega)).trans ((ext_alloc (Below.refl _ w3)).cell (p := ⟨w1.heap.size, j, none⟩) y3)
  have HB4 : Hid (Below w1.heap.size w1 w4) := HB3.out.trans (Below.mono (show Below w3.heap.size w3 w4 from (by (try show Below _ _ _); repeat (with_reducible first | exact Below.refl _ _ | assumption | exact Hid.out (by assumption) | refine ext_alloc ?_ | refine ext_drewN ?_ | refine ext_drew ?_ | refine ext_setCell ?_ (Nat.le_refl _) | refine ext_setCell ?_ (Nat.le_succ _) | refine ext_trans ?_ (by assumption) | (refine ext_setCell ?_ (by simp)) | (refine ext_setCell ?_ (by simp at *; omega))))) (by omega))
  have p45 := (e4 5).trans p5
  have P40 := Lib.hid ((e4 0).trans p0)
  have P41 := Lib.hid ((e4 1).trans p1)
  have P42 := Lib.hid ((e4 2).trans p2)
  have P43 := Lib.hid ((e4 3).trans p3)
  have P44 := Lib.hid ((e4 4).trans p4)
  have P45 := Lib.hid ((e4 5).trans p5)
  have HF4 : Hid (∀ j, w4.frozen? ⟨w1.heap.size, j, none⟩ = false) := fun j => (hb4.frozen (p := ⟨w1.heap.size, j, none⟩) (by show w1.heap.size < _; simp; omega)).trans (((ext_alloc (Below.refl _ w3)).frozen (p := ⟨w1.heap.size, j, none⟩) y3).trans ((HF3.out j).trans (by go_simp)))
  have z4 : w1.heap.size < w4.heap.size := by have := hb4.size; simp at this; omega
  have hlen : ((12 : Int) + (p.pay.length : Int) != 12 + (pn : Int)) = false := by rw [HPL.out]; simp
  clear hb4 e4 p0 p1 p2 p3 p4 p5
  go_wp2_with fail
  refine (someBytes_any w.heap.size 11 _ (HS1.out.below HB4.out) (by omega)).mono ?_
  rintro e w5 ⟨ra, rn, rc, xs, rfl, hcur5, hst5, hkp5⟩
  have HK5 := Lib.hid ((HK1.out.ext HB4.out).trans hkp5)
  have HC5 := Lib.hid hcur5
  have z5 : w4.heap.size ≤ w5.heap.size := hkp5.size
  have P50 := Lib.hid ((hkp5.cell (p := ⟨w1.heap.size, 0, none⟩) z4 (by show w1.heap.size ≠ w.heap.size; omega)).trans P40.out)
  have P51 := Lib.hid ((hkp5.cell (p := ⟨w1.heap.size, 1, none⟩) z4 (by show w1.heap.size ≠ w.heap.size; omega)).trans P41.out)
  have P52 := Lib.hid ((hkp5.cell (p := ⟨w1.heap.size, 2, none⟩) z4 (by show w1.heap.size ≠ w.heap.size; omega)).trans P42.out)
  have P53 := Lib.hid ((hkp5.cell (p := ⟨w1.heap.size, 3, none⟩) z4 (by show w1.heap.size ≠ w.heap.size; omega)).trans P43.out)
  have P54 := Lib.hid ((hkp5.cell (p := ⟨w1.heap.size, 4, none⟩) z4 (by show w1.heap.size ≠ w.heap.size; omega)).trans P44.out)
  have P55 := Lib.hid ((hkp5.cell (p := ⟨w1.heap.size, 5, none⟩) z4 (by show w1.heap.size ≠ w.heap.size; omega)).trans P45.out)
  have HF5 : Hid (∀ j, w5.frozen? ⟨w1.heap.size, j, none⟩ = false) := fun j => (hkp5.frozen (p := ⟨w1.heap.size, j, none⟩) z4 (by show w1.heap.size ≠ w.heap.size; omega)).trans (HF4.out j)
  clear hcur5 hst5 hkp5 p45 hlen P40 P41 P42 P43 P44 P45
  go_wp2_with fail
  refine (read_any _ ra rn rc xs HC5.out).mono ?_
  rintro e w6 (⟨c, hc, rfl, hb6⟩ | ⟨h12, hbig, h128, qa6, qn6, qc6, rfl, hqr6, hqn6, hqa6, hb6⟩)
  · have c0 : ((c : Int) == 0) = false := by rcases hc with rfl | rfl <;> rfl
    have g0 := (hb6.cell (p := ⟨w1.heap.size, 0, none⟩) (by show w1.heap.size < _; omega)).trans P50.out
    have k0 := (hb6.frozen (p := ⟨w1.heap.size, 0, none⟩) (by show w1.heap.size < _; omega)).trans (HF5.out 0)
    have g1 := (hb6.cell (p := ⟨w1.heap.size, 1, none⟩) (by show w1.heap.size < _; omega)).trans P51.out
    have k1 := (hb6.frozen (p := ⟨w1.heap.size, 1, none⟩) (by show w1.heap.size < _; omega)).trans (HF5.out 1)
    have g2 := (hb6.cell (p := ⟨w1.heap.size, 2, none⟩) (by show w1.heap.size < _; omega)).trans P52.out
    have k2 := (hb6.frozen (p := ⟨w1.heap.size, 2, none⟩) (by show w1.heap.size < _; omega)).trans (HF5.out 2)
    have g3 := (hb6.cell (p := ⟨w1.heap.size, 3, none⟩) (by show w1.heap.size < _; omega)).trans P53.out
    have k3 := (hb6.frozen (p := ⟨w1.heap.size, 3, none⟩) (by show w1.heap.size < _; omega)).trans (HF5.out 3)
    have g4 := (hb6.cell (p := ⟨w1.heap.size, 4, none⟩) (by show w1.heap.size < _; omega)).trans P54.out
    have k4 := (hb6.frozen (p := ⟨w1.heap.size, 4, none⟩) (by show w1.heap.size < _; omega)).trans (HF5.out 4)
    have g5 := (hb6.cell (p := ⟨w1.heap.size, 5, none⟩) (by show w1.heap.size < _; omega)).trans P55.out
    have k5 := (hb6.frozen (p := ⟨w1.heap.size, 5, none⟩) (by show w1.heap.size < _; omega)).trans (HF5.out 5)
    have HK6 := Lib.hid (HK5.out.ext hb6)
    have HT6 : Hid (TabAt w6) := (HT.out.below (ext_alloc (Below.refl _ _))).keeps HK6.out (by have := HT.out.1; omega)
    clear hb6 hc
    have HKW := Lib.hid ((((((HK6.out.setCell_new (p := ⟨w1.heap.size, 0, none⟩) (by simp; omega) (.int .i64 0)).setCell_new (p := ⟨w1.heap.size, 1, none⟩) (by simp; omega) (.int .i64 0)).setCell_new (p := ⟨w1.heap.size, 2, none⟩) (by simp; omega) (.int .i64 0)).setCell_new (p := ⟨w1.heap.size, 3, none⟩) (by simp; omega) (.int .i64 0)).setCell_new (p := ⟨w1.heap.size, 4, none⟩) (by simp; omega) (.bool false)).setCell_new (p := ⟨w1.heap.size, 5, none⟩) (by simp; omega) (.slice none 0 0))
    unfold zeroPkt
    go_wp2_with fail
    refine (ready_true _ ((HT.out.below (ext_alloc (Below.refl _ _))).keeps HKW.out (by have := HT.out.1; omega))).mono ?_
    rintro e w9 ⟨rfl, hB9⟩
    go_wp2_with fail
    go_ret
    exact ⟨rfl, law_end (HKW.out.ext hB9)⟩
  · have hdk : PktOk (decode xs) := decode_ok h12 HC5.out.bytes hbig
    have HED := Lib.hid (encode_decode h12 HC5.out.bytes h128)
    have g0 := (hb6.cell (p := ⟨w1.heap.size, 0, none⟩) (by show w1.heap.size < _; omega)).trans P50.out
    have k0 := (hb6.frozen (p := ⟨w1.heap.size, 0, none⟩) (by show w1.heap.size < _; omega)).trans (HF5.out 0)
    have g1 := (hb6.cell (p := ⟨w1.heap.size, 1, none⟩) (by show w1.heap.size < _; omega)).trans P51.out
    have k1 := (hb6.frozen (p := ⟨w1.heap.size, 1, none⟩) (by show w1.heap.size < _; omega)).trans (HF5.out 1)
    have g2 := (hb6.cell (p := ⟨w1.heap.size, 2, none⟩) (by show w1.heap.size < _; omega)).trans P52.out
    have k2 := (hb6.frozen (p := ⟨w1.heap.size, 2, none⟩) (by show w1.heap.size < _; omega)).trans (HF5.out 2)
    have g3 := (hb6.cell (p := ⟨w1.heap.size, 3, none⟩) (by show w1.heap.size < _; omega)).trans P53.out
    have k3 := (hb6.frozen (p := ⟨w1.heap.size, 3, none⟩) (by show w1.heap.size < _; omega)).trans (HF5.out 3)
    have g4 := (hb6.cell (p := ⟨w1.heap.size, 4, none⟩) (by show w1.heap.size < _; omega)).trans P54.out
    have k4 := (hb6.frozen (p := ⟨w1.heap.size, 4, none⟩) (by show w1.heap.size < _; omega)).trans (HF5.out 4)
    have g5 := (hb6.cell (p := ⟨w1.heap.size, 5, none⟩) (by show w1.heap.size < _; omega)).trans P55.out
    have k5 := (hb6.frozen (p := ⟨w1.heap.size, 5, none⟩) (by show w1.heap.size < _; omega)).trans (HF5.out 5)
    have HK6 := Lib.hid (HK5.out.ext hb6)
    have HKW := Lib.hid ((((((HK6.out.setCell_new (p := ⟨w1.heap.size, 0, none⟩) (by simp; omega) (.int .i64 (decode xs).type)).setCell_new (p := ⟨w1.heap.size, 1, none⟩) (by simp; omega) (.int .i64 (decode xs).seq)).setCell_new (p := ⟨w1.heap.size, 2, none⟩) (by simp; omega) (.int .i64 (decode xs).time)).setCell_new (p := ⟨w1.heap.size, 3, none⟩) (by simp; omega) (.int .i64 (decode xs).src)).setCell_new (p := ⟨w1.heap.size, 4, none⟩) (by simp; omega) (.bool (decode xs).mark)).setCell_new (p := ⟨w1.heap.size, 5, none⟩) (by simp; omega) (.slice qa6 qn6 qc6))
    have HKB := Lib.hid (((((((Keeps.refl w1.heap.size w6).setCell (p := ⟨w1.heap.size, 0, none⟩) rfl (.int .i64 (decode xs).type)).setCell (p := ⟨w1.heap.size, 1, none⟩) rfl (.int .i64 (decode xs).seq)).setCell (p := ⟨w1.heap.size, 2, none⟩) rfl (.int .i64 (decode xs).time)).setCell (p := ⟨w1.heap.size, 3, none⟩) rfl (.int .i64 (decode xs).src)).setCell (p := ⟨w1.heap.size, 4, none⟩) rfl (.bool (decode xs).mark)).setCell (p := ⟨w1.heap.size, 5, none⟩) rfl (.slice qa6 qn6 qc6))
    have HQ6 := Lib.hid hqr6
    have HDK := Lib.hid hdk
    have HC6 := Lib.hid (HC5.out.row.below hb6)
    have HQA := Lib.hid hqa6
    have HRA := Lib.hid HC5.out.at_
    have hfew := HC5.out.few
    have hrn : Hid (rn = xs.length) := HC5.out.row.1
    have z6 : w5.heap.size ≤ w6.heap.size := hb6.size
    clear hb6 hqr6 hdk h12 h128 hbig hqa6
    unfold pktVal
    go_wp2_with fail
    refine (write_any _ (decode xs) qa6 qn6 qc6 HDK.out (HQ6.out.keeps HKB.out (fun b off e => by have := HQA.out b off e; omega)) hqn6).mono ?_
    rintro e w7 ⟨v7, rfl, hown7, hb7⟩
    rw [HED.out] at hown7
    obtain ⟨a7, c7, hv7, hrow7, hat7⟩ := IRow.of_own_at hown7
    subst hv7
    have HR7 := Lib.hid hrow7
    have HC7 := Lib.hid ((HC6.out.keeps HKB.out (fun b off e => by have := HRA.out b off e; omega)).below hb7)
    have HK7 := Lib.hid (HKW.out.ext hb7)
    clear hown7 hrow7 hat7 hb7
    go_wp2_with fail
    refine (equal_bytes _ a7 ra _ c7 rn rc xs HR7.out HC7.out (by have := HDK.out.few; omega)).mono ?_
    rintro e w8 ⟨rfl, q8, rfl⟩
    have HK8 := Lib.hid (HK7.out.drewN q8)
    go_wp2_with fail
    refine (ready_true _ ((HT.out.below (ext_alloc (Below.refl _ _))).keeps HK8.out (by have := HT.out.1; omega))).mono ?_
    rintro e w9 ⟨rfl, hB9⟩
    go_wp2_with fail
    go_ret
    exact ⟨rfl, law_end (HK8.out.ext hB9)⟩
end Go.Proofs.YtlllckclfpdhgaaDoor
