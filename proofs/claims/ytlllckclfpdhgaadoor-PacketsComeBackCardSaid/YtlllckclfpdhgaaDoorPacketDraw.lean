/- What is proved here: PacketBytes of a stream hands back some bytes. Condition: the stream lies in memory as stated. -/
import Derived.Test.YtlllckclfpdhgaaDoorStreamBytes
import Derived.Lib.AppendZerosOnto
import Derived.Lib.AppendZeros
namespace Go.Proofs.YtlllckclfpdhgaaDoor
open Go.RowKit
set_option linter.unusedVariables false
set_option linter.unusedSimpArgs false

/-- Some bytes in memory. -/
structure Cur (B : Nat) (w : World) (a : Option Addr) (n cap : Nat) (xs : List Int) : Prop where
  row : IRow .u8 w a n xs
  bytes : Bytes xs
  le : n ≤ cap
  cap : cap ≤ 9223372036854775807
  few : n ≤ 2000
  at_ : ∀ b off, a = some (⟨b, off, none⟩ : Addr) → B ≤ b

theorem Cur.keeps {B S : Nat} {w w' : World} {a : Option Addr} {n cap : Nat} {xs : List Int} (h : Cur B w a n cap xs) (hk : Keeps S w w') (hS : S < B) : Cur B w' a n cap xs :=
  ⟨h.row.keeps hk (fun b off e => by have := h.at_ b off e; omega), h.bytes, h.le, h.cap, h.few, h.at_⟩
theorem Cur.below {B : Nat} {w w' : World} {a : Option Addr} {n cap : Nat} {xs : List Int} (h : Cur B w a n cap xs) (hk : Below w.heap.size w w') : Cur B w' a n cap xs :=
  ⟨h.row.below hk, h.bytes, h.le, h.cap, h.few, h.at_⟩

theorem cur_of_own {B base : Nat} {w : World} {v : Value} {n : Nat} {xs : List Int} (h : w.ownsRow base 5 1 v n (xs.map (Value.int .u8))) (hb : Bytes xs) (hn : n ≤ 2000) (hB : B ≤ base) : ∃ a cap, v = .slice a n cap ∧ Cur B w a n cap xs := by
  obtain ⟨a, cap, rfl, hr, hat⟩ := IRow.of_own_at h
  refine ⟨a, cap, rfl, hr, hb, ?_, ?_, hn, fun b off e => by have := hat b off e; omega⟩
  · rcases h.2 with ⟨h1, h2⟩ | ⟨g, c, cu, h1, _, _, h2, _⟩
    · omega
    · injection h1 with _ _ h3; omega
  · rcases h.2 with ⟨h1, h2⟩ | ⟨g, c, cu, h1, _, _, _, h2, _⟩
    · injection h1 with _ _ h3; omega
    · injection h1 with _ _ h3; unfold maxLen at h2; omega

def SomeBytes (S k : Nat) (w : World) (e : Ending) (w' : World) : Prop :=
  ∃ (a : Option Addr) (n cap : Nat) (xs : List Int), e = .returned (.slice a n cap) ∧ Cur w.heap.size w' a n cap xs ∧ StreamOk w' S k ∧ Keeps S w w'

theorem zero_at (k c : Nat) (hk : c < k) (r : Array Value) (x : Value) : (#[x] ++ (Builtin.zeroCells #[Value.int .u8 0] k ++ r))[1 + c]? = some (.int .u8 0) := by
  have hs : (Builtin.zeroCells #[Value.int .u8 0] k).size = k := by rw [size_zeroCells]; simp
  rw [Array.getElem?_append_right (by simp), show 1 + c - (#[x] : Array Value).size = c by simp, Array.getElem?_append_left (by rw [hs]; omega)]
  simp [Builtin.zeroCells, hk, Nat.mod_one]

set_option maxRecDepth 100000 in
set_option maxHeartbeats 4000000 in
theorem someBytes_any (S k : Nat) (w : World) (h : StreamOk w S k) (hk : k ≤ 900000) :
    Calls Tryd.prog 20 #[.pointer (some ⟨S, 0, none⟩)] w (SomeBytes S (k + 30) w) := by
  obtain ⟨i0, hi, hz0, hz1, hz2⟩ := info_parts Tryd.infoByte
  have hS := h.lt
  have H := Lib.hid h
  clear h
  go_enter Tryd.func20, Tryd.ntmps20
  go_wp2_with fail
  refine (rightPacket_any S k _ H.out (by omega)).mono ?_
  rintro e w1 ⟨p, a, n, cap, rfl, hok, hrow, hnil, hat, hn5, hst1, hkp1⟩
  have HS1 := Lib.hid hst1
  have HK1 := Lib.hid hkp1
  clear hst1 hkp1
  go_wp2_with fail
  refine (refBytes_any _ p a n cap hok hrow hnil).mono ?_
  rintro e w2 ⟨v, xs, rfl, hown, hby, hb2⟩
  obtain ⟨g, vc, rfl, hmc, hbg, hgl, hcm⟩ := own_form hown (by omega)
  have hS1 := HS1.out.lt
  have z1 := HK1.out.size
  have HO2 := Lib.hid hown
  have HBY := Lib.hid hby
  have HS2 := Lib.hid (HS1.out.below hb2)
  have HK2 := Lib.hid (HK1.out.ext hb2)
  clear hok hrow hnil hat hown hby hb2
  go_wp2_with fail
  refine (flip_any S _ 3 _ HS2.out (by omega) (by omega) (by omega)).mono ?_
  rintro e w3 ⟨f1, rfl, hst3, hkp3⟩
  have HO3 := Lib.hid (own_keeps HO2.out hkp3 (by omega))
  have HK3 := Lib.hid (HK2.out.trans hkp3)
  have HS3 := Lib.hid hst3
  clear hst3 hkp3
  cases f1 with
  | true =>
    go_wp2_with fail
    obtain ⟨aa, ac, hva, hcur⟩ := cur_of_own (B := w.heap.size) HO3.out HBY.out (by omega) (by omega)
    injection hva with hva1 _ hva3
    subst hva1; subst hva3
    refine (stBytes_any S _ _ HS3.out (by omega) ⟨g, 0, none⟩ _ _ xs hcur.row HBY.out (by omega)).mono ?_
    rintro e w4 ⟨v4, m, ys, rfl, hown4, hby4, hm4, hst4, hkp4⟩
    obtain ⟨a4, c4, rfl, hc4⟩ := cur_of_own (B := w.heap.size) hown4 hby4 (by omega) HK3.out.size
    have HC4 := Lib.hid hc4
    have HS4 := Lib.hid hst4
    have HK4 := Lib.hid (HK3.out.trans hkp4)
    clear hown4 hby4 hst4 hkp4 hc4 hcur
    go_wp2_with fail
    refine (flip_any S _ 30 _ HS4.out (by omega) (by omega) (by omega)).mono ?_
    rintro e w5 ⟨f2, rfl, hst5, hkp5⟩
    have HC5 := Lib.hid (HC4.out.keeps hkp5 hS)
    have HK5 := Lib.hid (HK4.out.trans hkp5)
    have HS5 := Lib.hid hst5
    have z5 := HK5.out.size
    clear hst5 hkp5
    cases f2 with
    | false =>
      go_wp2_with fail
      go_ret
      exact ⟨_, _, _, _, rfl, HC5.out, HS5.out.mono (by omega), HK5.out⟩
    | true =>
      go_wp2_with fail
      refine (pick4 S _ _ 10 11 1011 1012 (fun r => 1 ≤ r ∧ r ≤ 1012) _ (HS5.out.below (ext_alloc (ext_alloc (Below.refl _ _)))) (by omega) (by simp) (by simp; omega) (by go_simp) (by go_simp) (by go_simp) (by go_simp) (by omega) (by omega) (by omega) (by omega)).mono ?_
      rintro e w6 ⟨r, rfl, ⟨r0, r1⟩, hst6, hkp6⟩
      obtain ⟨r, rfl⟩ := Int.eq_ofNat_of_zero_le (by omega : 0 ≤ r)
      have HK6 := Lib.hid (HK5.out.trans (Keeps.trans (Keeps.of_below (ext_alloc (ext_alloc (Below.refl _ w5)))) hkp6))
      have c6 : w6.cell? ⟨w5.heap.size, 0, none⟩ = some (.int .u8 128) := (hkp6.cell (p := ⟨w5.heap.size, 0, none⟩) (by simp; omega) (by show w5.heap.size ≠ S; omega)).trans (by go_simp)
      have HS6 := Lib.hid hst6
      have z6 : w5.heap.size + 2 ≤ w6.heap.size := by have := hkp6.size; simp at this; omega
      clear hst6 hkp6
      have hrun := fun ty => Lib.run_append_grow_zeros (P := Tryd.prog) w6 42 3 ty 5 i0 (.int .u8 0) .i64 .i64 Tryd.underlying42 Tryd.underlying3 hi hz0 (some ⟨w5.heap.size, 0, none⟩) 1 1 [.int .u8 128] (by rw [hz1]; simp [Builtin.firstCells, loadCells, loadCellsFrom, c6, go_sem]) r (by omega) (by omega) (by omega) (by omega) (by rw [hz2]; omega) (by rw [hz2]; exact growslice_fits (by omega) (by omega))
      have HRUN := Lib.hid hrun
      clear hrun
      go_wp2_with (at_builtin; refine wpList_plain rfl (fun _ hK => Lib.wp_append_run _ (.tmp 14) (.tmp 17) 42 3 rfl _ _ rfl rfl _ _ (HRUN.out _) (hK _ _ ?_)))
      go_ret
      have hgc : grownCap w6 (1 + r) 1 5 ≤ 9223372036854775807 := by have := grownCap_le_maxLen w6 (1 + r) 1 5 (by unfold maxLen; omega); unfold maxLen at this; omega
      refine ⟨some ⟨w6.heap.size, 0, none⟩, 1 + r, _, 128 :: List.replicate r 0, rfl, ⟨⟨by simp; omega, Or.inr ⟨w6.heap.size, 0, rfl, by simp, fun i hi => ?_⟩⟩, ?_, grownCap_ge _ _ _ _, hgc, by omega, fun b off e => ?_⟩, (HS6.out.below (ext_drew (ext_alloc (Below.refl _ _)))).mono (by omega), HK6.out.ext (ext_drew (ext_alloc (Below.refl _ _)))⟩
      · rw [Nat.zero_add]
        refine (cell_of_row _ w6.heap.size i _ _ _ (heap_alloc_new w6 _)).trans ?_
        cases i with
        | zero => rw [Array.getElem?_append_left (by simp)]; rfl
        | succ c =>
          rw [Nat.add_comm c 1, zero_at r c (by omega)]
          simp [List.getD_eq_getElem?_getD, List.getElem?_replicate, show c < r by omega, Nat.add_comm 1 c]
      · intro x hx
        simp only [List.mem_cons, List.mem_replicate] at hx
        rcases hx with rfl | ⟨_, rfl⟩ <;> omega
      · cases e; have := HK6.out.size; omega
  | false =>
    obtain ⟨aa, ac, hva, hcur⟩ := cur_of_own (B := w.heap.size) HO3.out HBY.out (by omega) (by omega)
    injection hva with hva1 _ hva3
    subst hva1; subst hva3
    have HC4 := Lib.hid hcur
    have HS4 := HS3
    have HK4 := HK3
    clear hcur
    go_wp2_with fail
    refine (flip_any S _ 30 _ HS4.out (by omega) (by omega) (by omega)).mono ?_
    rintro e w5 ⟨f2, rfl, hst5, hkp5⟩
    have HC5 := Lib.hid (HC4.out.keeps hkp5 hS)
    have HK5 := Lib.hid (HK4.out.trans hkp5)
    have HS5 := Lib.hid hst5
    have z5 := HK5.out.size
    clear hst5 hkp5
    cases f2 with
    | false =>
      go_wp2_with fail
      go_ret
      exact ⟨_, _, _, _, rfl, HC5.out, HS5.out.mono (by omega), HK5.out⟩
    | true =>
      go_wp2_with fail
      refine (pick4 S _ _ 10 11 1011 1012 (fun r => 1 ≤ r ∧ r ≤ 1012) _ (HS5.out.below (ext_alloc (ext_alloc (Below.refl _ _)))) (by omega) (by simp) (by simp; omega) (by go_simp) (by go_simp) (by go_simp) (by go_simp) (by omega) (by omega) (by omega) (by omega)).mono ?_
      rintro e w6 ⟨r, rfl, ⟨r0, r1⟩, hst6, hkp6⟩
      obtain ⟨r, rfl⟩ := Int.eq_ofNat_of_zero_le (by omega : 0 ≤ r)
      have HK6 := Lib.hid (HK5.out.trans (Keeps.trans (Keeps.of_below (ext_alloc (ext_alloc (Below.refl _ w5)))) hkp6))
      have c6 : w6.cell? ⟨w5.heap.size, 0, none⟩ = some (.int .u8 128) := (hkp6.cell (p := ⟨w5.heap.size, 0, none⟩) (by simp; omega) (by show w5.heap.size ≠ S; omega)).trans (by go_simp)
      have HS6 := Lib.hid hst6
      have z6 : w5.heap.size + 2 ≤ w6.heap.size := by have := hkp6.size; simp at this; omega
      clear hst6 hkp6
      have hrun := fun ty => Lib.run_append_grow_zeros (P := Tryd.prog) w6 42 3 ty 5 i0 (.int .u8 0) .i64 .i64 Tryd.underlying42 Tryd.underlying3 hi hz0 (some ⟨w5.heap.size, 0, none⟩) 1 1 [.int .u8 128] (by rw [hz1]; simp [Builtin.firstCells, loadCells, loadCellsFrom, c6, go_sem]) r (by omega) (by omega) (by omega) (by omega) (by rw [hz2]; omega) (by rw [hz2]; exact growslice_fits (by omega) (by omega))
      have HRUN := Lib.hid hrun
      clear hrun
      go_wp2_with (at_builtin; refine wpList_plain rfl (fun _ hK => Lib.wp_append_run _ (.tmp 14) (.tmp 17) 42 3 rfl _ _ rfl rfl _ _ (HRUN.out _) (hK _ _ ?_)))
      go_ret
      have hgc : grownCap w6 (1 + r) 1 5 ≤ 9223372036854775807 := by have := grownCap_le_maxLen w6 (1 + r) 1 5 (by unfold maxLen; omega); unfold maxLen at this; omega
      refine ⟨some ⟨w6.heap.size, 0, none⟩, 1 + r, _, 128 :: List.replicate r 0, rfl, ⟨⟨by simp; omega, Or.inr ⟨w6.heap.size, 0, rfl, by simp, fun i hi => ?_⟩⟩, ?_, grownCap_ge _ _ _ _, hgc, by omega, fun b off e => ?_⟩, (HS6.out.below (ext_drew (ext_alloc (Below.refl _ _)))).mono (by omega), HK6.out.ext (ext_drew (ext_alloc (Below.refl _ _)))⟩
      · rw [Nat.zero_add]
        refine (cell_of_row _ w6.heap.size i _ _ _ (heap_alloc_new w6 _)).trans ?_
        cases i with
        | zero => rw [Array.getElem?_append_left (by simp)]; rfl
        | succ c =>
          rw [Nat.add_comm c 1, zero_at r c (by omega)]
          simp [List.getD_eq_getElem?_getD, List.getElem?_replicate, show c < r by omega, Nat.add_comm 1 c]
      · intro x hx
        simp only [List.mem_cons, List.mem_replicate] at hx
        rcases hx with rfl | ⟨_, rfl⟩ <;> omega
      · cases e; have := HK6.out.size; omega
end Go.Proofs.YtlllckclfpdhgaaDoor
