/- What is proved here: the tariff that a stream makes is right. Condition: the stream lies in memory as stated. -/
import Derived.Test.YtlllckclfpdhgaaDoorTariffRows
import Derived.Test.YtlllckclfpdhgaaDoorGenPick
import Derived.Deep.AppendLies
namespace Go.Proofs.YtlllckclfpdhgaaDoor
open Go.RowKit
set_option linter.unusedVariables false
set_option linter.unusedSimpArgs false

theorem Tryd.infoClass : (Tryd.prog.info? 37).map (fun i => (i.zero, i.size, i.bytes)) = some (some (.agg #[.string ⟨#[]⟩, .string ⟨#[]⟩, .int .i64 0, .int .i64 0, .int .i64 0, .int .i64 0]), 6, 64) := by kernel_rfl

/-- A tariff in the making: its own block T, the beginnings behind it, its classes in blocks behind these. -/
structure TfAt (S K : Nat) (w2 wr : World) (free : Int) (a2 : Option Addr) (n2 c2 : Nat) (v : Value) (q n : Nat) (cs : List Cls) : Prop where
  cell0 : wr.cell? ⟨w2.heap.size, 0, none⟩ = some v
  own : wr.ownsRow (w2.heap.size + 2) 37 6 v n (flat cs)
  cell1 : wr.cell? ⟨w2.heap.size, 1, none⟩ = some (.int .i64 free)
  cell2 : wr.cell? ⟨w2.heap.size, 2, none⟩ = some (.slice a2 n2 c2)
  fro : ∀ j, wr.frozen? ⟨w2.heap.size, j, none⟩ = false
  pres : ∀ j, j < 5 → wr.cell? ⟨w2.heap.size + 1, j, none⟩ = some (.string ⟨(fivePre.getD j []).toArray⟩)
  keeps : Keeps S w2 wr
  stream : StreamOk wr S (K + 7 * q)
  sub : (cs.map Cls.pre).Sublist (fivePre.take q)
  good : ∀ c ∈ cs, GoodCls c
  few : n ≤ q
  size : w2.heap.size + 2 ≤ wr.heap.size

/-- The same behind calls that turn the stream alone. -/
theorem TfAt.kept {S K : Nat} {w2 wr w' : World} {free : Int} {a2 : Option Addr} {n2 c2 : Nat} {v : Value} {q n : Nat} {cs : List Cls} (h : TfAt S K w2 wr free a2 n2 c2 v q n cs) (hS : S < w2.heap.size) (hk : Keeps S wr w') {K' : Nat} (hs : StreamOk w' S K') (hle : K' ≤ K + 7 * (q + 1)) (hq : q < 5) : TfAt S K w2 w' free a2 n2 c2 v (q + 1) n cs where
  cell0 := (hk.cell (p := ⟨w2.heap.size, 0, none⟩) (by have := h.size; show w2.heap.size < _; omega) (by show w2.heap.size ≠ S; omega)).trans h.cell0
  own := own_keeps h.own hk (by omega)
  cell1 := (hk.cell (p := ⟨w2.heap.size, 1, none⟩) (by have := h.size; show w2.heap.size < _; omega) (by show w2.heap.size ≠ S; omega)).trans h.cell1
  cell2 := (hk.cell (p := ⟨w2.heap.size, 2, none⟩) (by have := h.size; show w2.heap.size < _; omega) (by show w2.heap.size ≠ S; omega)).trans h.cell2
  fro := fun j => (hk.frozen (p := ⟨w2.heap.size, j, none⟩) (by have := h.size; show w2.heap.size < _; omega) (by show w2.heap.size ≠ S; omega)).trans (h.fro j)
  pres := fun j hj => (hk.cell (p := ⟨w2.heap.size + 1, j, none⟩) (by have := h.size; show w2.heap.size + 1 < _; omega) (by show w2.heap.size + 1 ≠ S; omega)).trans (h.pres j hj)
  keeps := h.keeps.trans hk
  stream := hs.mono hle
  sub := h.sub.trans (List.take_sublist_take_left (by omega))
  good := h.good
  few := by have := h.few; omega
  size := Nat.le_trans h.size hk.size

/-- A class more. -/
theorem good_of {pq : List UInt8} {q : Nat} (h : fivePre.getD q [] = pq) (hq : q < 5) : ∀ nm su fi sp rt, (isKeyB nm = true ∧ nm.length ≤ 1000) → (0 ≤ su ∧ su ≤ 1000000) → (0 ≤ fi ∧ fi ≤ 86400000) → (1 ≤ sp ∧ sp ≤ 86400000) → (0 ≤ rt ∧ rt ≤ 1000000) → GoodCls ⟨pq, nm, su, fi, sp, rt⟩ := by
  intro nm su fi sp rt h1 h2 h3 h4 h5
  have hm : pq ∈ fivePre := by rw [← h, show fivePre.getD q [] = fivePre[q]'(by simpa [fivePre] using hq) by simp [fivePre, hq]]; exact List.getElem_mem _
  have := five_ok pq hm
  exact ⟨this.1, this.2, h1.1, h1.2, h2.1, h2.2, h5.1, h5.2, h3.1, h3.2, h4.1, h4.2⟩
theorem sub_more {cs : List Cls} {cl : Cls} {pq : List UInt8} {q : Nat} (h : (cs.map Cls.pre).Sublist (fivePre.take q)) (hp : fivePre.getD q [] = pq) (hc : cl.pre = pq) (hq : q < 5) : ((cs ++ [cl]).map Cls.pre).Sublist (fivePre.take (q + 1)) := by
  have hl : q < fivePre.length := by simpa [fivePre] using hq
  rw [List.map_append, List.take_succ_eq_append_getElem hl]
  refine List.Sublist.append h ?_
  have : fivePre[q] = pq := by rw [← hp]; simp [hl]
  simp [this, hc]

theorem Keeps.grown0 {S : Nat} {a w w' : World} {row : Option Nat} (h : Keeps S a w) (hg : w.grownBy w' row) (hr : ∀ b, row = some b → a.heap.size ≤ b) : Keeps S a w' :=
  ⟨hg.os.trans h.os, hg.tape.trans h.tape, hg.output.trans h.output, Nat.le_trans h.size hg.size, fun k hk hn => (hg.block k (Nat.lt_of_lt_of_le hk h.size) (fun e => by have := hr k e.symm; omega)).trans (h.block k hk hn)⟩

theorem TfAt.push {S K : Nat} {w2 w8 w9 : World} {free : Int} {a2 : Option Addr} {n2 c2 : Nat} {v v' : Value} {q n : Nat} {cs : List Cls} (h : TfAt S K w2 w8 free a2 n2 c2 v q n cs) (hS : S < w2.heap.size) (hq : n < q) {c : Cls} (hg : w8.grownBy w9 v.ownBlock)
    (hown : w9.ownsRow (w2.heap.size + 2) 37 6 v' (n + 1) (flat cs ++ c.cells)) (gc : GoodCls c) (hsub : ((cs ++ [c]).map Cls.pre).Sublist (fivePre.take q)) : TfAt S K w2 (w9.setCell ⟨w2.heap.size, 0, none⟩ v') free a2 n2 c2 v' q (n + 1) (cs ++ [c]) := by
  have hz := h.size
  have hfar : ∀ b, b < w2.heap.size + 2 → (∀ o, w9.cell? ⟨b, o, none⟩ = w8.cell? ⟨b, o, none⟩) ∧ ∀ o, w9.frozen? ⟨b, o, none⟩ = w8.frozen? ⟨b, o, none⟩ := by
    intro b hb
    have hne : v.ownBlock ≠ some b := fun e => by have := (h.own.lt _ e).1; omega
    obtain ⟨f1, f2⟩ := far_grown hg (b := b) (by omega) hne
    exact ⟨f1, f2⟩
  have hT := hfar w2.heap.size (by omega)
  have hP := hfar (w2.heap.size + 1) (by omega)
  have hk9 : Keeps S w2 w9 := h.keeps.grown0 hg (fun b e => by have := (h.own.lt _ e).1; omega)
  refine ⟨?_, ?_, ?_, ?_, ?_, ?_, ?_, ?_, hsub, ?_, by omega, ?_⟩
  · exact World.cell?_setCell_same _ _ _ ((hT.1 0).trans h.cell0)
  · have : flat (cs ++ [c]) = flat cs ++ c.cells := by simp [flat]
    rw [this]
    exact ownsRow_setCell_below hown (by show w2.heap.size < _; omega) v'
  · exact (World.cell?_setCell_other _ _ _ _ (by simp)).trans ((hT.1 1).trans h.cell1)
  · exact (World.cell?_setCell_other _ _ _ _ (by simp)).trans ((hT.1 2).trans h.cell2)
  · intro j; rw [World.frozen?_setCell]; exact (hT.2 j).trans (h.fro j)
  · intro j hj; exact (World.cell?_setCell_other _ _ _ _ (by simp)).trans ((hP.1 j).trans (h.pres j hj))
  · exact hk9.setCell_new (Nat.le_refl _) v'
  · refine h.stream.upto ((((Below.refl (S + 1) w8).grown hg (by omega) (fun b e => by have := (h.own.lt _ e).1; omega))).setCell (by show S + 1 ≤ w2.heap.size; omega) v')
  · intro d hd
    rcases List.mem_append.1 hd with hd | hd
    · exact h.good d hd
    · simp at hd; subst hd; exact gc
  · have := hg.size; simp; omega

/-- A tariff that is right is handed back. -/
def RightPost (S k : Nat) (w : World) (e : Ending) (w' : World) : Prop :=
  ∃ (a : Option Addr) (n cap : Nat) (cs : List Cls) (free : Int) (a2 : Option Addr) (n2 cap2 : Nat) (ss : List (List UInt8)), e = .returned (.agg #[.slice a n cap, .int .i64 free, .slice a2 n2 cap2]) ∧ TariffAt w' a n cs free a2 n2 ss ∧ (∀ b off, a = some ⟨b, off, none⟩ → b ≠ S) ∧ (∀ b off, a2 = some ⟨b, off, none⟩ → b ≠ S) ∧ StreamOk w' S k ∧ Keeps S w w'

set_option maxRecDepth 100000 in
set_option maxHeartbeats 4000000 in
theorem rightTariff_any (S k : Nat) (w : World) (h : StreamOk w S k) (hk : k ≤ 1000000) :
    Calls Tryd.prog 10 #[.pointer (some ⟨S, 0, none⟩)] w (RightPost S (k + 40) w) := by
  obtain ⟨i0, hi, hz0, hz1, hz2⟩ := info_parts Tryd.infoClass
  have hS := h.lt
  have H := Lib.hid h
  clear h
  go_enter Tryd.func10, Tryd.ntmps10
  go_wp2_with fail
  refine (pick4 S k _ 0 0 60000 90000 (fun r => 0 ≤ r ∧ r ≤ 90000) _ (H.out.below (ext_alloc (ext_alloc (Below.refl _ _)))) (by omega) (by simp) (by omega) (by go_simp) (by go_simp) (by go_simp) (by go_simp) (by omega) (by omega) (by omega) (by omega)).mono ?_
  rintro e w1 ⟨free, rfl, ⟨f0, f1⟩, hst1, hkp1⟩
  have HK1 := Lib.hid (Keeps.trans (Keeps.of_below (ext_alloc (ext_alloc (Below.refl _ w)))) hkp1)
  have HS1 := Lib.hid hst1
  have z1 : w.heap.size + 2 ≤ w1.heap.size := by have := hkp1.size; simp at this; omega
  have hR1 : Hid ((∀ j v, (#[.slice none 0 0, .int .i64 0, .slice none 0 0] : Array Value)[j]? = some v → w1.cell? ⟨w.heap.size, j, none⟩ = some v) ∧ ∀ j, w1.frozen? ⟨w.heap.size, j, none⟩ = false) :=
    ⟨fun j v hv => (hkp1.cell (p := ⟨w.heap.size, j, none⟩) (by simp; omega) (by simp; omega)).trans (by rw [World.cell?_alloc_lt _ _ _ (by simp)]; simpa using hv), fun j => (hkp1.frozen (p := ⟨w.heap.size, j, none⟩) (by simp; omega) (by simp; omega)).trans (by go_simp)⟩
  clear hst1 hkp1
  go_wp2_with fail
  refine (next_any S (k + 1) 3 _ (HS1.out.below (ext_alloc (ext_alloc (ext_alloc (Below.refl _ _))))) (by omega) (by omega) (by omega)).mono ?_
  rintro e w2 ⟨r, rfl, r0, r1, hst2, hkp2⟩
  obtain ⟨r, rfl⟩ := Int.eq_ofNat_of_zero_le r0
  have hsel : ∃ (a2 : Option Addr) (n2 c2 : Nat) (ss : List (List UInt8)), w2.cell? ⟨w1.heap.size + 1 + 1, r, none⟩ = some (.slice a2 n2 c2) ∧ StrRow w2 a2 n2 ss ∧ ss ∈ insides ∧ ∀ b off, a2 = some ⟨b, off, none⟩ → b ≠ S ∧ b ≠ w.heap.size := by
    have hr3 : r = 0 ∨ r = 1 ∨ r = 2 := by omega
    have c0 : ∀ j, w2.cell? ⟨w1.heap.size + 1 + 1, j, none⟩ = (((w1.alloc (.cells #[.string ⟨#[104, 111, 109, 101]⟩] 9)).alloc (.cells #[.string ⟨#[104, 111, 109, 101]⟩, .string ⟨#[110, 101, 97, 114]⟩] 9)).alloc (.cells #[.slice none 0 0, .slice (some ⟨w1.heap.size, 0, none⟩) 1 1, .slice (some ⟨w1.heap.size + 1, 0, none⟩) 2 2] 27)).cell? ⟨w1.heap.size + 1 + 1, j, none⟩ := fun j => hkp2.cell (p := ⟨w1.heap.size + 1 + 1, j, none⟩) (by simp) (by simp; omega)
    have c1 : ∀ j, w2.cell? ⟨w1.heap.size, j, none⟩ = (((w1.alloc (.cells #[.string ⟨#[104, 111, 109, 101]⟩] 9)).alloc (.cells #[.string ⟨#[104, 111, 109, 101]⟩, .string ⟨#[110, 101, 97, 114]⟩] 9)).alloc (.cells #[.slice none 0 0, .slice (some ⟨w1.heap.size, 0, none⟩) 1 1, .slice (some ⟨w1.heap.size + 1, 0, none⟩) 2 2] 27)).cell? ⟨w1.heap.size, j, none⟩ := fun j => hkp2.cell (p := ⟨w1.heap.size, j, none⟩) (by simp; omega) (by simp; omega)
    have c2 : ∀ j, w2.cell? ⟨w1.heap.size + 1, j, none⟩ = (((w1.alloc (.cells #[.string ⟨#[104, 111, 109, 101]⟩] 9)).alloc (.cells #[.string ⟨#[104, 111, 109, 101]⟩, .string ⟨#[110, 101, 97, 114]⟩] 9)).alloc (.cells #[.slice none 0 0, .slice (some ⟨w1.heap.size, 0, none⟩) 1 1, .slice (some ⟨w1.heap.size + 1, 0, none⟩) 2 2] 27)).cell? ⟨w1.heap.size + 1, j, none⟩ := fun j => hkp2.cell (p := ⟨w1.heap.size + 1, j, none⟩) (by simp) (by simp; omega)
    have z2 := hkp2.size
    simp at z2
    rcases hr3 with rfl | rfl | rfl
    · exact ⟨none, 0, 0, [], by rw [c0]; go_simp, ⟨rfl, by omega, Or.inl rfl⟩, by decide, fun b off e => by cases e⟩
    · refine ⟨some ⟨w1.heap.size, 0, none⟩, 1, 1, [homeL], by rw [c0]; go_simp, ⟨rfl, by omega, Or.inr ⟨w1.heap.size, 0, rfl, by omega, fun i hi => ?_⟩⟩, by decide, fun b off e => by cases e; exact ⟨by omega, by omega⟩⟩
      obtain rfl : i = 0 := by omega
      rw [Nat.zero_add, c1]; go_simp; rfl
    · refine ⟨some ⟨w1.heap.size + 1, 0, none⟩, 2, 2, [homeL, nearL], by rw [c0]; go_simp, ⟨rfl, by omega, Or.inr ⟨w1.heap.size + 1, 0, rfl, by omega, fun i hi => ?_⟩⟩, by decide, fun b off e => by cases e; exact ⟨by omega, by omega⟩⟩
      have : i = 0 ∨ i = 1 := by omega
      rcases this with rfl | rfl
      · rw [Nat.zero_add, c2]; go_simp; rfl
      · rw [Nat.zero_add, c2]; go_simp; rfl
  obtain ⟨a2, n2, c2, ss, hcell, hsr, hin, hne⟩ := hsel
  have HSR := Lib.hid hsr
  have HIN := Lib.hid (insides_ok ss hin)
  have HNE := Lib.hid hne
  have HK2 := Lib.hid (HK1.out.trans (Keeps.trans (Keeps.of_below (ext_alloc (ext_alloc (ext_alloc (Below.refl _ w1))))) hkp2))
  have HS2 := Lib.hid hst2
  have z2 : w1.heap.size + 3 ≤ w2.heap.size := by have := hkp2.size; simp at this; omega
  have hR2 : ∀ j v, (#[.slice none 0 0, .int .i64 0, .slice none 0 0] : Array Value)[j]? = some v → w2.cell? ⟨w.heap.size, j, none⟩ = some v := fun j v hv => (hkp2.cell (p := ⟨w.heap.size, j, none⟩) (by simp; omega) (by simp; omega)).trans (by rw [World.cell?_alloc_lt _ _ _ (by simp; omega), World.cell?_alloc_lt _ _ _ (by simp; omega), World.cell?_alloc_lt _ _ _ (by simp; omega)]; exact hR1.out.1 j v hv)
  have hRF : Hid (∀ j, w2.frozen? ⟨w.heap.size, j, none⟩ = false) := fun j => (hkp2.frozen (p := ⟨w.heap.size, j, none⟩) (by simp; omega) (by simp; omega)).trans (((ext_alloc (ext_alloc (ext_alloc (Below.refl _ w1)))).frozen (p := ⟨w.heap.size, j, none⟩) (by show w.heap.size < w1.heap.size; omega)).trans (hR1.out.2 j))
  have R0 := Lib.hid (hR2 0 _ rfl)
  have R1 := Lib.hid (hR2 1 _ rfl)
  have R2 := Lib.hid (hR2 2 _ rfl)
  have r3 : (r : Int) < 3 := by omega
  have r4 : r < 3 := by omega
  have r5 : (0 : Int) ≤ (r : Int) := by omega
  clear hR2
  clear hkp2 hst2 hsr hin hne r1 r0 hR1
  go_wp2_with fail
  go_loopw [19] (fun i wr => ∃ (q n : Nat) (v : Value) (cs : List Cls), q ≤ 5 ∧ i = .int .i64 q ∧ Hid (TfAt S (k + 2) w2 wr free a2 n2 c2 v q n cs)) (fun i _ => 5 - (intOf i).toNat)
  case atStart =>
    refine ⟨0, 0, .slice none 0 0, [], by omega, rfl, ⟨by go_simp, World.ownsRow_nil _ _ _ _, by go_simp, by go_simp, fun j => by go_simp, fun j hj => ?_, Keeps.of_below (by (try show Below _ _ _); repeat (with_reducible first | exact Below.refl _ _ | assumption | exact Hid.out (by assumption) | refine ext_alloc ?_ | refine ext_drewN ?_ | refine ext_drew ?_ | refine ext_setCell ?_ (Nat.le_refl _) | refine ext_setCell ?_ (Nat.le_succ _) | refine ext_trans ?_ (by assumption) | (refine ext_setCell ?_ (by simp)) | (refine ext_setCell ?_ (by simp at *; omega)))), HS2.out.below (by (try show Below _ _ _); repeat (with_reducible first | exact Below.refl _ _ | assumption | exact Hid.out (by assumption) | refine ext_alloc ?_ | refine ext_drewN ?_ | refine ext_drew ?_ | refine ext_setCell ?_ (Nat.le_refl _) | refine ext_setCell ?_ (Nat.le_succ _) | refine ext_trans ?_ (by assumption) | (refine ext_setCell ?_ (by simp)) | (refine ext_setCell ?_ (by simp at *; omega)))), by simp, (fun c hc => by cases hc), Nat.le_refl _, by simp⟩⟩
    match j, hj with
    | 0, _ => go_simp; rfl
    | 1, _ => go_simp; rfl
    | 2, _ => go_simp; rfl
    | 3, _ => go_simp; rfl
    | 4, _ => go_simp; rfl
  case round =>
    obtain ⟨q, n, v, cs, hq, rfl, HT⟩ := hrel
    by_cases hlt : q < 5
    · have pc := HT.out.pres q hlt
      generalize hpq : fivePre.getD q [] = pq at pc
      have HPQ := Lib.hid hpq
      have hlt2 : (q : Int) < 5 := by omega
      clear hpq
      go_wp2_with fail
      refine (flip_any S _ 3 _ HT.out.stream (by omega) (by omega) (by omega)).mono ?_
      rintro e w3 ⟨fl, rfl, hst3, hkp3⟩
      cases fl with
      | true =>
        have HN := Lib.hid (HT.out.kept (by omega) hkp3 hst3 (by omega) hlt)
        clear hst3 hkp3
        go_wp2_with fail
        go_roundw
        case rel => exact ⟨q + 1, n, v, cs, by omega, by go_num, HN⟩
        case measure => simp [intOf]; omega
      | false =>
        go_wp2_with fail
        have zT : w2.heap.size + 2 ≤ w3.heap.size := Nat.le_trans HT.out.size hkp3.size
        have c3 : w3.cell? ⟨w2.heap.size, 0, none⟩ = some v := (hkp3.cell (p := ⟨w2.heap.size, 0, none⟩) (by have := HT.out.size; show w2.heap.size < _; omega) (by show w2.heap.size ≠ S; omega)).trans HT.out.cell0
        have f3 : ∀ j, w3.frozen? ⟨w2.heap.size, j, none⟩ = false := fun j => (hkp3.frozen (p := ⟨w2.heap.size, j, none⟩) (by have := HT.out.size; show w2.heap.size < _; omega) (by show w2.heap.size ≠ S; omega)).trans (HT.out.fro j)
        have H3 := Lib.hid hst3
        have HK3 := Lib.hid hkp3
        have hST : S < w2.heap.size := by omega
        clear hst3 hkp3
        have o3 := own_keeps HT.out.own HK3.out (by omega)
        have kk3 := HK3.out
        have FR := Lib.hid (fun w8 (kk : Keeps S wr w8) => (kk.frozen (p := ⟨w2.heap.size, 0, none⟩) (by have := HT.out.size; show w2.heap.size < _; omega) (by show w2.heap.size ≠ S; omega)).trans (HT.out.fro 0))
        have n5 : n + 1 ≤ maxLen := by have := HT.out.few; unfold maxLen; omega
        have ag : v.ownBlock ≠ some w2.heap.size := fun e => by have := (o3.lt _ e).1; omega
        have N5 := Lib.hid n5
        have n6 : (n + 1) * 64 ≤ 140737488355328 := by have := HT.out.few; omega
        have N6 := Lib.hid n6
        clear n5 n6
        have GC : Hid (∀ nm su fi sp rt, (isKeyB nm = true ∧ nm.length ≤ 1000) → (0 ≤ su ∧ su ≤ 1000000) → (0 ≤ fi ∧ fi ≤ 86400000) → (1 ≤ sp ∧ sp ≤ 86400000) → (0 ≤ rt ∧ rt ≤ 1000000) → GoodCls ⟨pq, nm, su, fi, sp, rt⟩) := good_of HPQ.out hlt
        refine region_gen S (k + 2 + 7 * q + 1) 20 [.val (· = .pointer (some ⟨w2.heap.size, 0, none⟩)), .val (v = ·), .val (· = .string ⟨pq.toArray⟩), .val (· = .pointer (some ⟨S, 0, none⟩)), .arr 3 (· = [.string ⟨homeL.toArray⟩, .string ⟨nearL.toArray⟩, .string ⟨farL.toArray⟩]), .val (fun x => ∃ r : List UInt8, x = .string ⟨r.toArray⟩ ∧ isKeyB r = true ∧ r.length ≤ 1000), .val (· = .pointer (some ⟨S, 0, none⟩)), .arr 4 (· = [.int .i64 0, .int .i64 0, .int .i64 1000, .int .i64 999]), .val (fun x => ∃ r : Int, x = .int .i64 r ∧ 0 ≤ r ∧ r ≤ 1000000), .val (· = .pointer (some ⟨S, 0, none⟩)), .arr 3 (· = [.int .i64 0, .int .i64 0, .int .i64 60000]), .val (fun x => ∃ r : Int, x = .int .i64 r ∧ 0 ≤ r ∧ r ≤ 86400000), .val (· = .pointer (some ⟨S, 0, none⟩)), .arr 3 (· = [.int .i64 1, .int .i64 1000, .int .i64 60000]), .val (fun x => ∃ r : Int, x = .int .i64 r ∧ 1 ≤ r ∧ r ≤ 86400000), .val (· = .pointer (some ⟨S, 0, none⟩)), .arr 4 (· = [.int .i64 0, .int .i64 1, .int .i64 10, .int .i64 500]), .val (fun x => ∃ r : Int, x = .int .i64 r ∧ 0 ≤ r ∧ r ≤ 1000000), .val (fun x => ∃ c : Cls, GoodCls c ∧ c.pre = pq ∧ x = .agg c.cells.toArray), .arr 1 (fun vs => ∃ c : Cls, GoodCls c ∧ c.pre = pq ∧ vs = c.cells)] [5, 8, 11, 14, 17] [some 25, some 26, some 27, some 28, some 29, some 30, some 31, some 32, some 33, some 34, some 35, some 36, some 37, some 38, some 39, some 40, some 41, some 42, some 43, some 44] (by kernel_rfl) (by kernel_rfl) (by kernel_rfl) (by kernel_rfl) rfl (by kernel_rfl) H3.out ⟨?_, ?_, ?_, ?_, ?_, ?_, ?_, ?_, ?_, ?_, ?_, ?_, ?_, ?_, ?_, ?_, ?_, ?_, ?_, ?_, trivial⟩ ?_
        · intro a w' c hk hst hc hfr hdp K hK
          have f : a.tmps[3]?.getD undef = .pointer (some ⟨w2.heap.size, 0, none⟩) := slot_of (hfr 3 (by kernel_rfl))
          refine gen_pure (v := .pointer (some ⟨w2.heap.size, 0, none⟩)) ?_ (hK _ _ rfl (Keeps.refl _ _) hst)
          go_simp
        · intro a w' c hk hst hc hfr hdp K hK
          have d : a.tmps[25]?.getD undef = .pointer (some ⟨w2.heap.size, 0, none⟩) := slot_of (hdp 0 25 _ (by kernel_rfl) (by kernel_rfl) rfl)
          have cl : w'.cell? ⟨w2.heap.size, 0, none⟩ = some v := (hk.cell (p := ⟨w2.heap.size, 0, none⟩) (by show w2.heap.size < w3.heap.size; omega) (by show w2.heap.size ≠ S; omega)).trans c3
          refine gen_pure (v := v) ?_ (hK _ _ rfl (Keeps.refl _ _) hst)
          go_simp
        · intro a w' c hk hst hc hfr hdp K hK
          have f : a.tmps[5]?.getD undef = .string ⟨pq.toArray⟩ := slot_of (hfr 5 (by kernel_rfl))
          refine gen_pure (v := .string ⟨pq.toArray⟩) ?_ (hK _ _ rfl (Keeps.refl _ _) hst)
          go_simp
        · intro a w' c hk hst hc hfr hdp K hK
          have f : a.tmps[0]?.getD undef = .pointer (some ⟨S, 0, none⟩) := slot_of (hfr 0 (by kernel_rfl))
          refine gen_pure (v := .pointer (some ⟨S, 0, none⟩)) ?_ (hK _ _ rfl (Keeps.refl _ _) hst)
          go_simp
        · intro a w' c hk hst hc hfr hdp K hK
          refine gen_alloc (p := (· = [.string ⟨homeL.toArray⟩, .string ⟨nearL.toArray⟩, .string ⟨farL.toArray⟩])) #[.string ⟨homeL.toArray⟩, .string ⟨nearL.toArray⟩, .string ⟨farL.toArray⟩] 9 ?_ rfl hst hK
          go_simp
          rfl
        · intro a w' c hk hst hc hfr hdp K hK
          have d1 : a.tmps[28]?.getD undef = .pointer (some ⟨S, 0, none⟩) := slot_of (hdp 3 28 _ (by kernel_rfl) (by kernel_rfl) rfl)
          have d2 := hdp 4 29 _ (by kernel_rfl) (by kernel_rfl) rfl
          generalize hv2 : a.eval (.tmp 29) = v2 at d2
          have d3 := slot_of hv2
          clear hv2
          have hc2 : c + 1 ≤ 5 := hc
          refine gen_call 11 #[.pointer (some ⟨S, 0, none⟩), v2] ?_ (calls_some S _ v2 [homeL, nearL, farL] (fun r => isKeyB r = true ∧ r.length ≤ 1000) w' hst (by omega) d2 (by decide) (by decide) (by decide)) ?_
          · clear d2 hK; go_simp
          rintro e w'' ⟨r, rfl, hr, hst2, hkp⟩
          exact ⟨_, rfl, hK _ _ ⟨r, rfl, hr⟩ hkp hst2⟩
        · intro a w' c hk hst hc hfr hdp K hK
          have f : a.tmps[0]?.getD undef = .pointer (some ⟨S, 0, none⟩) := slot_of (hfr 0 (by kernel_rfl))
          refine gen_pure (v := .pointer (some ⟨S, 0, none⟩)) ?_ (hK _ _ rfl (Keeps.refl _ _) hst)
          go_simp
        · intro a w' c hk hst hc hfr hdp K hK
          refine gen_alloc (p := (· = [.int .i64 0, .int .i64 0, .int .i64 1000, .int .i64 999])) #[.int .i64 0, .int .i64 0, .int .i64 1000, .int .i64 999] 3 ?_ rfl hst hK
          go_simp
        · intro a w' c hk hst hc hfr hdp K hK
          have d1 : a.tmps[31]?.getD undef = .pointer (some ⟨S, 0, none⟩) := slot_of (hdp 6 31 _ (by kernel_rfl) (by kernel_rfl) rfl)
          have d2 := hdp 7 32 _ (by kernel_rfl) (by kernel_rfl) rfl
          generalize hv2 : a.eval (.tmp 32) = v2 at d2
          have d3 := slot_of hv2
          clear hv2
          have hc2 : c + 1 ≤ 5 := hc
          refine gen_call 33 #[.pointer (some ⟨S, 0, none⟩), v2] ?_ (calls_pick S _ v2 [0, 0, 1000, 999] (fun r => 0 ≤ r ∧ r ≤ 1000000) w' hst (by omega) d2 (by decide) (by decide) (by decide)) ?_
          · clear d2 hK; go_simp
          rintro e w'' ⟨r, rfl, hr, hst2, hkp⟩
          exact ⟨_, rfl, hK _ _ ⟨r, rfl, hr⟩ hkp hst2⟩
        · intro a w' c hk hst hc hfr hdp K hK
          have f : a.tmps[0]?.getD undef = .pointer (some ⟨S, 0, none⟩) := slot_of (hfr 0 (by kernel_rfl))
          refine gen_pure (v := .pointer (some ⟨S, 0, none⟩)) ?_ (hK _ _ rfl (Keeps.refl _ _) hst)
          go_simp
        · intro a w' c hk hst hc hfr hdp K hK
          refine gen_alloc (p := (· = [.int .i64 0, .int .i64 0, .int .i64 60000])) #[.int .i64 0, .int .i64 0, .int .i64 60000] 3 ?_ rfl hst hK
          go_simp
        · intro a w' c hk hst hc hfr hdp K hK
          have d1 : a.tmps[34]?.getD undef = .pointer (some ⟨S, 0, none⟩) := slot_of (hdp 9 34 _ (by kernel_rfl) (by kernel_rfl) rfl)
          have d2 := hdp 10 35 _ (by kernel_rfl) (by kernel_rfl) rfl
          generalize hv2 : a.eval (.tmp 35) = v2 at d2
          have d3 := slot_of hv2
          clear hv2
          have hc2 : c + 1 ≤ 5 := hc
          refine gen_call 33 #[.pointer (some ⟨S, 0, none⟩), v2] ?_ (calls_pick S _ v2 [0, 0, 60000] (fun r => 0 ≤ r ∧ r ≤ 86400000) w' hst (by omega) d2 (by decide) (by decide) (by decide)) ?_
          · clear d2 hK; go_simp
          rintro e w'' ⟨r, rfl, hr, hst2, hkp⟩
          exact ⟨_, rfl, hK _ _ ⟨r, rfl, hr⟩ hkp hst2⟩
        · intro a w' c hk hst hc hfr hdp K hK
          have f : a.tmps[0]?.getD undef = .pointer (some ⟨S, 0, none⟩) := slot_of (hfr 0 (by kernel_rfl))
          refine gen_pure (v := .pointer (some ⟨S, 0, none⟩)) ?_ (hK _ _ rfl (Keeps.refl _ _) hst)
          go_simp
        · intro a w' c hk hst hc hfr hdp K hK
          refine gen_alloc (p := (· = [.int .i64 1, .int .i64 1000, .int .i64 60000])) #[.int .i64 1, .int .i64 1000, .int .i64 60000] 3 ?_ rfl hst hK
          go_simp
        · intro a w' c hk hst hc hfr hdp K hK
          have d1 : a.tmps[37]?.getD undef = .pointer (some ⟨S, 0, none⟩) := slot_of (hdp 12 37 _ (by kernel_rfl) (by kernel_rfl) rfl)
          have d2 := hdp 13 38 _ (by kernel_rfl) (by kernel_rfl) rfl
          generalize hv2 : a.eval (.tmp 38) = v2 at d2
          have d3 := slot_of hv2
          clear hv2
          have hc2 : c + 1 ≤ 5 := hc
          refine gen_call 33 #[.pointer (some ⟨S, 0, none⟩), v2] ?_ (calls_pick S _ v2 [1, 1000, 60000] (fun r => 1 ≤ r ∧ r ≤ 86400000) w' hst (by omega) d2 (by decide) (by decide) (by decide)) ?_
          · clear d2 hK; go_simp
          rintro e w'' ⟨r, rfl, hr, hst2, hkp⟩
          exact ⟨_, rfl, hK _ _ ⟨r, rfl, hr⟩ hkp hst2⟩
        · intro a w' c hk hst hc hfr hdp K hK
          have f : a.tmps[0]?.getD undef = .pointer (some ⟨S, 0, none⟩) := slot_of (hfr 0 (by kernel_rfl))
          refine gen_pure (v := .pointer (some ⟨S, 0, none⟩)) ?_ (hK _ _ rfl (Keeps.refl _ _) hst)
          go_simp
        · intro a w' c hk hst hc hfr hdp K hK
          refine gen_alloc (p := (· = [.int .i64 0, .int .i64 1, .int .i64 10, .int .i64 500])) #[.int .i64 0, .int .i64 1, .int .i64 10, .int .i64 500] 3 ?_ rfl hst hK
          go_simp
        · intro a w' c hk hst hc hfr hdp K hK
          have d1 : a.tmps[40]?.getD undef = .pointer (some ⟨S, 0, none⟩) := slot_of (hdp 15 40 _ (by kernel_rfl) (by kernel_rfl) rfl)
          have d2 := hdp 16 41 _ (by kernel_rfl) (by kernel_rfl) rfl
          generalize hv2 : a.eval (.tmp 41) = v2 at d2
          have d3 := slot_of hv2
          clear hv2
          have hc2 : c + 1 ≤ 5 := hc
          refine gen_call 33 #[.pointer (some ⟨S, 0, none⟩), v2] ?_ (calls_pick S _ v2 [0, 1, 10, 500] (fun r => 0 ≤ r ∧ r ≤ 1000000) w' hst (by omega) d2 (by decide) (by decide) (by decide)) ?_
          · clear d2 hK; go_simp
          rintro e w'' ⟨r, rfl, hr, hst2, hkp⟩
          exact ⟨_, rfl, hK _ _ ⟨r, rfl, hr⟩ hkp hst2⟩
        · intro a w' c hk hst hc hfr hdp K hK
          have g2 : a.tmps[27]?.getD undef = .string ⟨pq.toArray⟩ := slot_of (hdp 2 27 _ (by kernel_rfl) (by kernel_rfl) rfl)
          obtain ⟨nm, g5, hnm⟩ := hdp 5 30 _ (by kernel_rfl) (by kernel_rfl) rfl
          obtain ⟨su, g8, hsu⟩ := hdp 8 33 _ (by kernel_rfl) (by kernel_rfl) rfl
          obtain ⟨fi, g11, hfi⟩ := hdp 11 36 _ (by kernel_rfl) (by kernel_rfl) rfl
          obtain ⟨sp, g14, hsp⟩ := hdp 14 39 _ (by kernel_rfl) (by kernel_rfl) rfl
          obtain ⟨rt, g17, hrt⟩ := hdp 17 42 _ (by kernel_rfl) (by kernel_rfl) rfl
          have s5 := slot_of g5
          have s8 := slot_of g8
          have s11 := slot_of g11
          have s14 := slot_of g14
          have s17 := slot_of g17
          clear g5 g8 g11 g14 g17
          refine gen_pure (v := .agg (Cls.cells ⟨pq, nm, su, fi, sp, rt⟩).toArray) ?_ (hK _ _ ⟨⟨pq, nm, su, fi, sp, rt⟩, GC.out nm su fi sp rt hnm hsu hfi hsp hrt, rfl, rfl⟩ (Keeps.refl _ _) hst)
          clear hK hnm hsu hfi hsp hrt
          go_simp
          rfl
        · intro a w' c hk hst hc hfr hdp K hK
          obtain ⟨⟨c0, c1, c2, c3, c4, c5⟩, gcl, hpre, g⟩ := hdp 18 43 _ (by kernel_rfl) (by kernel_rfl) rfl
          have s18 := slot_of g
          refine gen_alloc (p := fun vs => ∃ c : Cls, GoodCls c ∧ c.pre = pq ∧ vs = c.cells) (Cls.cells ⟨c0, c1, c2, c3, c4, c5⟩).toArray 37 ?_ ⟨_, gcl, hpre, rfl⟩ hst hK
          clear hK g gcl hpre
          simp only [Cls.cells] at s18 ⊢
          go_simp
        intro w8 hk8 hst8
        rintro _ rfl _ rfl _ rfl _ rfl _ - _ - _ - _ - _ - _ - _ - _ - _ - _ - _ - _ - _ - _ - _ - _ ⟨gb, _, rfl, ⟨cl, gcl, hpre, rfl⟩, hgb, hgl, hgc⟩
        simp only [ForVals, Act.put, List.setIfInBounds_toArray, List.set_cons_zero, List.set_cons_succ, List.drop_succ_cons, List.drop_zero]
        have hT := HT.out.kept hST (HK3.out.trans (Keeps.trans (by exact Keeps.of_below (ext_drew (Below.refl _ _))) hk8)) hst8 (by show k + 2 + 7 * q + 1 + 5 ≤ _; omega) hlt
        have HT8 := Lib.hid hT
        have o8 := hT.own
        have c8 := hT.cell0
        have f8 := hT.fro 0
        have z8 := hT.size
        have HSub : Hid (((cs ++ [cl]).map Cls.pre).Sublist (fivePre.take (q + 1))) := sub_more HT.out.sub HPQ.out hpre hlt
        clear hT hst8 hk8
        refine wpList_append_own w8 rfl (.tmp 26) (.tmp 44) 26 rfl (w2.heap.size + 2) 37 i0 _ 6 64 Tryd.underlying26 hi hz0 hz1 hz2 rfl (by omega) v n (flat cs) rfl o8 ⟨gb, 0, none⟩ 1 1 cl.cells rfl rfl (fun j u hj => by rw [addr_add0]; exact hgc j u hj) (by simp [Value.oneCell', Cls.cells]) N5.out N6.out (by omega) ?_
        intro v9 w9 hown9 hgr9 _
        obtain ⟨ga, gcap, rfl⟩ := own_slice hown9
        have hfar := far_grown hgr9 (b := w2.heap.size) (by omega) ag
        have c9 : w9.cell? ⟨w2.heap.size, 0, none⟩ = some v := (hfar.1 0).trans c8
        have f9 : w9.frozen? ⟨w2.heap.size, 0, none⟩ = false := (hfar.2 0).trans f8
        have HN := Lib.hid (HT8.out.push hST (by have := HT.out.few; omega) hgr9 hown9 gcl HSub.out)
        clear hown9 hgr9 hfar o8 c8 f8 HSub hgc
        go_wp2_with fail
        go_roundw
        case rel => exact ⟨q + 1, n + 1, _, cs ++ [cl], by omega, by go_num, HN⟩
        case measure => simp [intOf]; omega
    · obtain rfl : q = 5 := by omega
      obtain ⟨av, cap, rfl, hrow, hbase⟩ := ClsRow.of_own HT.out.own (by have := HT.out.few; omega)
      have c0 := HT.out.cell0
      have c1 := HT.out.cell1
      have c2' := HT.out.cell2
      have r0 := (HT.out.keeps.cell (p := ⟨w.heap.size, 0, none⟩) (by show w.heap.size < w2.heap.size; omega) (by show w.heap.size ≠ S; omega)).trans R0.out
      have r1 := (HT.out.keeps.cell (p := ⟨w.heap.size, 1, none⟩) (by show w.heap.size < w2.heap.size; omega) (by show w.heap.size ≠ S; omega)).trans R1.out
      have r2 := (HT.out.keeps.cell (p := ⟨w.heap.size, 2, none⟩) (by show w.heap.size < w2.heap.size; omega) (by show w.heap.size ≠ S; omega)).trans R2.out
      have q0 := (HT.out.keeps.frozen (p := ⟨w.heap.size, 0, none⟩) (by show w.heap.size < w2.heap.size; omega) (by show w.heap.size ≠ S; omega)).trans (hRF.out 0)
      have q1 := (HT.out.keeps.frozen (p := ⟨w.heap.size, 1, none⟩) (by show w.heap.size < w2.heap.size; omega) (by show w.heap.size ≠ S; omega)).trans (hRF.out 1)
      have q2 := (HT.out.keeps.frozen (p := ⟨w.heap.size, 2, none⟩) (by show w.heap.size < w2.heap.size; omega) (by show w.heap.size ≠ S; omega)).trans (hRF.out 2)
      have HROW := Lib.hid hrow
      have HBASE := Lib.hid hbase
      clear hrow hbase
      go_wp2_with fail
      have hw := ((((Keeps.refl w.heap.size wr).setCell (p := ⟨w.heap.size, 0, none⟩) rfl (.slice av n cap)).setCell (p := ⟨w.heap.size, 1, none⟩) rfl (.int .i64 free)).setCell (p := ⟨w.heap.size, 2, none⟩) rfl (.slice a2 n2 c2))
      have hkw : Keeps S w wr := HK2.out.trans HT.out.keeps
      refine bodyPost_ret (v := .agg #[.slice av n cap, .int .i64 free, .slice a2 n2 c2]) (by simp [results, Tryd.results10, go_sem, r0, r1, r2]) rfl ⟨av, n, cap, cs, free, a2, n2, c2, ss, rfl, ?_, fun b off e => ?_, fun b off e => (HNE.out b off e).1, ?_, ?_⟩
      · refine ⟨HROW.out.keeps hw (fun b off e => by have := HBASE.out b off e; omega), fun i hi => ?_, sorted_of_sub HT.out.sub, (HSR.out.keeps HT.out.keeps (fun b off e => (HNE.out b off e).1)).keeps hw (fun b off e => (HNE.out b off e).2), fun i hi => HIN.out.1 i (by have := HSR.out.1; omega), fun i h0 hi => HIN.out.2.1 i h0 (by have := HSR.out.1; omega), f0, by omega⟩
        have hl : i < cs.length := by have := HROW.out.1; omega
        rw [show cs.getD i noCls = cs[i] by simp [hl]]
        exact HT.out.good _ (List.getElem_mem hl)
      · have := HBASE.out b off e; omega
      · exact (HT.out.stream.upto (hw.below (B := S + 1) (by have := HT.out.size; omega) (by omega))).mono (by omega)
      · exact ((hkw.setCell_new (Nat.le_refl _) _).setCell_new (Nat.le_refl _) _).setCell_new (Nat.le_refl _) _
end Go.Proofs.YtlllckclfpdhgaaDoor
