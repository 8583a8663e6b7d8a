/- What is proved here: lemmas and contracts for the statement, put together out of smaller texts (PlanDrawn, Numbered, LawForms, DigitsDraw). No condition beyond those stated. -/
import Derived.Test.YthajppcmmmkfcaaGreatDoorDpPkB
import Derived.Maps.AppendAt
import Derived.BigRegion
import Derived.Test.YthajppcmmmkfcaaGreatDoorDpPkH
import Derived.Test.YthajppcmmmkfcaaGreatDoorDpPkD
import Derived.Lib.ConvBytes
set_option linter.unusedVariables false
set_option linter.unusedSimpArgs false
namespace Go.Proofs.YthajppcmmmkfcaaGreatDoor
open Go.RowKit

theorem Tryz.infoArea : (Tryz.prog.info? 72).map (fun i => (i.zero, i.size, i.bytes)) = some (some (.agg #[.string ⟨#[]⟩, .int .i64 0, .int .i64 0]), 3, 32) := by kernel_rfl

structure CtryEnd (S P : Nat) (w : World) (i : Nat) (c : Ctry) : Prop where
  cells : ∀ j, j < 4 → w.cell? ⟨P, i * 4 + j, none⟩ = c.cells[j]?
  fine : CtryFine w c
  some : 1 ≤ c.an
  at_ : ∃ b, c.aa = Option.some ⟨b, 0, none⟩ ∧ b ≠ S
structure PlanEnd (S P : Nat) (w : World) (l : List Ctry) : Prop where
  len : l.length = 3
  each : ∀ i, i < 3 → CtryEnd S P w i (l.getD i noCtry)
  offS : P ≠ S
  lt : P < w.heap.size
theorem CtryAt.ends {S P base : Nat} {w : World} {i : Nat} {c : Ctry} {b : Nat} (h : CtryAt S P base w i c b) : CtryEnd S P w i c := ⟨h.cells, h.fine, h.some, b, h.at_, h.off⟩
theorem CtryEnd.keeps {S P : Nat} {w w' : World} {i : Nat} {c : Ctry} (h : CtryEnd S P w i c) (hP : P < w.heap.size) (hS : P ≠ S) (hk : Keeps S w w') : CtryEnd S P w' i c := by
  obtain ⟨b, ha, hb⟩ := h.at_
  exact ⟨fun j hj => (hk.cell (p := ⟨P, i * 4 + j, none⟩) hP hS).trans (h.cells j hj), ⟨h.fine.code, h.fine.abroad, h.fine.trunk, h.fine.many, by have := h.fine.row; rw [ha] at this ⊢; exact this.keeps hb hk, h.fine.each⟩, h.some, b, ha, hb⟩
theorem PlanEnd.post {S P k : Nat} {w w' : World} {l : List Ctry} (h : PlanEnd S P w' l) (hs : StreamOk w' S k) (hk : Keeps S w w') : PlanPost S k w (.returned (.slice (some ⟨P, 0, none⟩) 3 3)) w' :=
  ⟨P, l, rfl, fun w9 h9 => ⟨h.len.symm, by omega, Or.inr ⟨P, 0, rfl, Nat.lt_of_lt_of_le h.lt h9.size, fun i hi j hj => by rw [Nat.zero_add]; exact ((h.each i hi).keeps h.lt h.offS h9).cells j hj⟩, fun i hi => ((h.each i (by rw [h.len] at hi; exact hi)).keeps h.lt h.offS h9).fine⟩, fun i hi => (h.each i (by rw [h.len] at hi; exact hi)).some, hs, hk⟩

theorem PlanPost.mono {S k k' : Nat} {w : World} {e : Ending} {w' : World} (h : PlanPost S k w e w') (hk : k ≤ k') : PlanPost S k' w e w' := by
  obtain ⟨P, l, he, h1, h2, h3, h4⟩ := h
  exact ⟨P, l, he, h1, h2, h3.mono hk, h4⟩
theorem AreaRow.set {w : World} {b n : Nat} {l : List Area} {p : Addr} {v : Value} (h : AreaRow w (some ⟨b, 0, none⟩) n l) (hp : p.block ≠ b) : AreaRow (w.setCell p v) (some ⟨b, 0, none⟩) n l := by
  refine ⟨h.len, h.row.imp id ?_⟩
  rintro ⟨b9, off, ha, hl, hc⟩
  injection ha with ha
  injection ha with e1 e2
  subst e1 e2
  exact ⟨b, 0, rfl, by simpa using hl, fun i hi j hj => (World.cell?_setCell_other _ _ _ _ (by rintro rfl; exact hp rfl)).trans (hc i hi j hj)⟩
theorem CtryFine.set {w : World} {c : Ctry} {b : Nat} {p : Addr} {v : Value} (h : CtryFine w c) (ha : c.aa = some ⟨b, 0, none⟩) (hp : p.block ≠ b) : CtryFine (w.setCell p v) c :=
  ⟨h.code, h.abroad, h.trunk, h.many, by have := h.row; rw [ha] at this ⊢; exact this.set hp, h.each⟩
theorem getD_set_same {l : List Ctry} {r : Nat} {c d : Ctry} (h : r < l.length) : (l.set r c).getD r d = c := by simp [h]
theorem getD_set_other {l : List Ctry} {r i : Nat} {c d : Ctry} (h : i ≠ r) : (l.set r c).getD i d = l.getD i d := by simp [List.getElem?_set, Ne.symm h]

/-- One cell of one country is written. -/
theorem end_set {S P : Nat} {w : World} {l : List Ctry} {r j : Nat} {v : Value} {c' : Ctry} (hlen : l.length = 3) (hr : r < 3) (hj : j < 4) (hPS : P ≠ S) (hPl : P < w.heap.size)
    (ho : ∀ i, i < 3 → i ≠ r → CtryEnd S P w i (l.getD i noCtry) ∧ ∀ b, (l.getD i noCtry).aa = some ⟨b, 0, none⟩ → b ≠ P)
    (hc : ∀ q, q < 4 → w.cell? ⟨P, r * 4 + q, none⟩ = (l.getD r noCtry).cells[q]?) (hcells : c'.cells = (l.getD r noCtry).cells.set j v)
    (hf : CtryFine (w.setCell ⟨P, r * 4 + j, none⟩ v) c') (hs : 1 ≤ c'.an) (hb : ∃ b, c'.aa = some ⟨b, 0, none⟩ ∧ b ≠ S) : PlanEnd S P (w.setCell ⟨P, r * 4 + j, none⟩ v) (l.set r c') := by
  refine ⟨by simpa using hlen, fun i hi => ?_, hPS, by simpa using hPl⟩
  by_cases hir : i = r
  · subst hir
    rw [getD_set_same (by omega)]
    refine ⟨fun q hq => ?_, hf, hs, hb⟩
    rw [hcells]
    by_cases hqj : q = j
    · subst hqj
      obtain ⟨u, hu⟩ : ∃ u, w.cell? ⟨P, i * 4 + q, none⟩ = some u := ⟨_, (hc q hq).trans (List.getElem?_eq_getElem (by simpa [Ctry.cells] using hq))⟩
      rw [World.cell?_setCell_same _ _ _ hu, List.getElem?_set_self (by simpa [Ctry.cells] using hq)]
    · rw [World.cell?_setCell_other _ _ _ _ (by intro e; injection e with _ e2 _; omega), List.getElem?_set_ne (Ne.symm hqj)]
      exact hc q hq
  · rw [getD_set_other hir]
    obtain ⟨⟨h1, h2, h3, b, h4, h5⟩, h6⟩ := ho i hi hir
    exact ⟨fun q hq => (World.cell?_setCell_other _ _ _ _ (by intro e; injection e with _ e2 _; omega)).trans (h1 q hq), h2.set h4 (by show P ≠ b; exact Ne.symm (h6 b h4)), h3, b, h4, h5⟩

/-- The same where the areas stay. -/
theorem PlanAt.put {S P base : Nat} {w : World} {l : List Ctry} {bs : List Nat} (h : PlanAt S P base w l bs) {r j : Nat} {v : Value} {c' : Ctry} (hr : r < 3) (hj : j < 4) (hcells : c'.cells = (l.getD r noCtry).cells.set j v) (e1 : c'.aa = (l.getD r noCtry).aa) (e2 : c'.an = (l.getD r noCtry).an) (e3 : c'.areas = (l.getD r noCtry).areas) (n1 : c'.code.length ≤ 100) (n2 : c'.abroad.length ≤ 100) (n3 : c'.trunk.length ≤ 100) : PlanEnd S P (w.setCell ⟨P, r * 4 + j, none⟩ v) (l.set r c') := by
  have hc := h.each r hr
  refine end_set h.len hr hj h.offS h.lt (fun i hi hn => ⟨(h.each i hi).ends, fun b hb => ?_⟩) hc.cells hcells ?_ (by rw [e2]; exact hc.some) ⟨_, by rw [e1]; exact hc.at_, hc.off⟩
  · have := (h.each i hi).at_
    rw [hb] at this
    injection this with this
    injection this with this
    rw [this]
    exact (h.each i hi).offP
  · have hf := hc.fine.set (v := v) (p := ⟨P, r * 4 + j, none⟩) hc.at_ (Ne.symm hc.offP)
    exact ⟨n1, n2, n3, by rw [e2]; exact hf.many, by rw [e1, e2, e3]; exact hf.row, by rw [e3]; exact hf.each⟩

theorem snoc_lt {l : List Area} {x : Area} {i : Nat} (h : i < l.length) : (l ++ [x]).getD i noArea = l.getD i noArea := by simp [List.getElem?_append_left h]
theorem snoc_eq {l : List Area} {x : Area} : (l ++ [x]).getD l.length noArea = x := by simp
theorem set0_ne {l : List Area} {x : Area} {i : Nat} (h : i ≠ 0) : (l.set 0 x).getD i noArea = l.getD i noArea := by simp [List.getElem?_set, Ne.symm h]
theorem set0_eq {l : List Area} {x : Area} (h : 0 < l.length) : (l.set 0 x).getD 0 noArea = x := by simp [h]
theorem areaCells_get (l : List Area) (i j : Nat) (hi : i < l.length) (hj : j < 3) : (areaCells l)[i * 3 + j]? = (l.getD i noArea).cells[j]? := by
  induction l generalizing i with
  | nil => simp at hi
  | cons x xs ih =>
    unfold areaCells at *
    rw [List.flatMap_cons]
    cases i with
    | zero => rw [List.getElem?_append_left (by simp [Area.cells]; omega)]; simp
    | succ i =>
      rw [List.getElem?_append_right (by simp [Area.cells]; omega)]
      have := ih i (by simpa using hi)
      rw [show (i + 1) * 3 + j - x.cells.length = i * 3 + j by simp [Area.cells]; omega, this]
      simp
theorem areaCells_snoc (l : List Area) (x : Area) : areaCells (l ++ [x]) = areaCells l ++ x.cells := by simp [areaCells, List.flatMap_append]
theorem AreaRow.off {w w' : World} {b n : Nat} {l : List Area} (h : AreaRow w (some ⟨b, 0, none⟩) n l) (hb : b < w.heap.size → w'.heap[b]? = w.heap[b]?) (hz : w.heap.size ≤ w'.heap.size) : AreaRow w' (some ⟨b, 0, none⟩) n l := by
  refine ⟨h.len, h.row.imp id ?_⟩
  rintro ⟨b9, off, ha, hl, hc⟩
  injection ha with ha
  injection ha with e1 e2
  subst e1 e2
  exact ⟨b, 0, rfl, Nat.lt_of_lt_of_le hl hz, fun i hi j hj => (World.cell?_of_block (w := w) (a := ⟨b, 0 + i * 3 + j, none⟩) (hb hl)).trans (hc i hi j hj)⟩

/-- A country that has one area more. -/
def Ctry.more (c : Ctry) (a : Option Addr) (cap : Nat) (x : Area) : Ctry := ⟨c.code, c.abroad, c.trunk, a, c.an + 1, cap, c.areas ++ [x]⟩
theorem end_grow {S base P : Nat} {w8 w9 : World} {l : List Ctry} {bs : List Nat} {r : Nat} (hA : PlanAt S P base w8 l bs) (hO : PlanOwn base w8 l bs) (hS : S < base) (hr : r < 3) {x : Area} (hx : AreaFine x) {v9 : Value}
    (hown : w9.ownsRow base 72 3 v9 ((l.getD r noCtry).an + 1) (areaCells (l.getD r noCtry).areas ++ x.cells)) (hgr : w8.grownBy w9 (some (bs.getD r 0))) (hat : v9.ownBlock = some (bs.getD r 0) ∨ v9.ownBlock = some w8.heap.size) :
    ∃ a9 c9, v9 = .slice a9 ((l.getD r noCtry).an + 1) c9 ∧ PlanEnd S P (w9.setCell ⟨P, r * 4 + 3, none⟩ v9) (l.set r ((l.getD r noCtry).more a9 c9 x)) := by
  have hP := hA.lt
  have hblk : ∀ k, k < w8.heap.size → k ≠ bs.getD r 0 → w9.heap[k]? = w8.heap[k]? := fun k hk hn => hgr.block k hk (fun e => hn (by injection e))
  have hPr : P ≠ bs.getD r 0 := Ne.symm (hA.each r hr).offP
  rcases hown.2 with ⟨_, h0⟩ | ⟨g, c9, cur, rfl, hbg, hg, _, _, _, _⟩
  · omega
  have hgl := (hown.lt g rfl).2
  have hgP : g ≠ P := by
    rcases hat with h | h
    · simp [Value.ownBlock] at h; rw [h]; exact (hA.each r hr).offP
    · simp [Value.ownBlock] at h; omega
  have hcP : ∀ o, w9.cell? ⟨P, o, none⟩ = w8.cell? ⟨P, o, none⟩ := fun o => World.cell?_of_block (w := w8) (a := ⟨P, o, none⟩) (hblk P hP hPr)
  refine ⟨some ⟨g, 0, none⟩, c9, rfl, ?_⟩
  have hlen : (l.getD r noCtry).an = (l.getD r noCtry).areas.length := (hA.each r hr).fine.row.len
  have hrow : AreaRow w9 (some ⟨g, 0, none⟩) ((l.getD r noCtry).an + 1) ((l.getD r noCtry).areas ++ [x]) := by
    have hl1 : ((l.getD r noCtry).areas ++ [x]).length = (l.getD r noCtry).areas.length + 1 := by rw [List.length_append]; rfl
    refine ⟨by rw [hl1, hlen], Or.inr ⟨g, 0, rfl, hgl, fun i hi j hj => ?_⟩⟩
    rw [Nat.zero_add, hown.cellAt _ (by omega), ← areaCells_snoc, areaCells_get _ _ _ (by omega) hj]
  refine end_set hA.len hr (by omega) hA.offS (Nat.lt_of_lt_of_le hP hgr.size) (fun i hi hn => ?_) (fun q hq => (hcP _).trans ((hA.each r hr).cells q hq)) ?_ ?_ (by show 1 ≤ _ + 1; omega) ⟨g, rfl, by omega⟩
  · have hi' := hA.each i hi
    refine ⟨⟨fun j hj => (hcP _).trans (hi'.cells j hj), ⟨hi'.fine.code, hi'.fine.abroad, hi'.fine.trunk, hi'.fine.many, ?_, hi'.fine.each⟩, hi'.some, _, hi'.at_, hi'.off⟩, fun b hb => ?_⟩
    · have := hi'.fine.row
      rw [hi'.at_] at this ⊢
      exact this.off (fun hl => hblk _ hl (hO.alone i r hi hr hn)) hgr.size
    · have := hi'.at_
      rw [hb] at this
      injection this with this
      injection this with this
      rw [this]
      exact hi'.offP
  · rfl
  · have hf := (hA.each r hr).fine
    refine ⟨hf.code, hf.abroad, hf.trunk, by show _ + 1 ≤ 1000; have := hO.few r hr; omega, hrow.set (by show P ≠ g; omega), fun i hi => ?_⟩
    show AreaFine (((l.getD r noCtry).areas ++ [x]).getD i noArea)
    have hi' : i < (l.getD r noCtry).areas.length + 1 := by simpa [Ctry.more] using hi
    by_cases h : i < (l.getD r noCtry).areas.length
    · rw [snoc_lt h]; exact hf.each i h
    · have e : i = (l.getD r noCtry).areas.length := by omega
      rw [e, snoc_eq]; exact hx

/-- A country of which the first area has other bounds. -/
def Ctry.first (c : Ctry) (x y : Int) : Ctry := ⟨c.code, c.abroad, c.trunk, c.aa, c.an, c.ac, c.areas.set 0 ⟨(c.areas.getD 0 noArea).pre, x, y⟩⟩
theorem end_low {S base P : Nat} {w : World} {l : List Ctry} {bs : List Nat} {r : Nat} (hA : PlanAt S P base w l bs) (ha : ∀ i j, i < 3 → j < 3 → i ≠ j → bs.getD i 0 ≠ bs.getD j 0) (hr : r < 3) {x y : Int} (x0 : -4000000000000 ≤ x) (x1 : x ≤ 4000000000000) (y0 : -4000000000000 ≤ y) (y1 : y ≤ 4000000000000) :
    PlanEnd S P ((w.setCell ⟨bs.getD r 0, 1, none⟩ (.int .i64 x)).setCell ⟨bs.getD r 0, 2, none⟩ (.int .i64 y)) (l.set r ((l.getD r noCtry).first x y)) := by
  have hP := hA.lt
  have hR := hA.each r hr
  have hother : ∀ b o, b ≠ bs.getD r 0 → ((w.setCell ⟨bs.getD r 0, 1, none⟩ (.int .i64 x)).setCell ⟨bs.getD r 0, 2, none⟩ (.int .i64 y)).cell? ⟨b, o, none⟩ = w.cell? ⟨b, o, none⟩ := fun b o hn => (World.cell?_setCell_other _ _ _ _ (by intro e; injection e with e; exact hn e.symm)).trans (World.cell?_setCell_other _ _ _ _ (by intro e; injection e with e; exact hn e.symm))
  have hrow0 := hR.fine.row
  rw [hR.at_] at hrow0
  have hlen : (l.getD r noCtry).an = (l.getD r noCtry).areas.length := hrow0.len
  have hsome := hR.some
  have hcell : ∀ i, i < (l.getD r noCtry).an → ∀ j, j < 3 → w.cell? ⟨bs.getD r 0, i * 3 + j, none⟩ = ((l.getD r noCtry).areas.getD i noArea).cells[j]? := by
    rcases hrow0.row with h | ⟨b9, off, ha, hl, hc⟩
    · omega
    · injection ha with ha
      injection ha with e1 e2
      subst e1 e2
      intro i hi j hj
      simpa using hc i hi j hj
  refine ⟨by simpa using hA.len, fun i hi => ?_, hA.offS, by simpa using hP⟩
  by_cases hir : i = r
  · subst hir
    rw [getD_set_same (by rw [hA.len]; exact hi)]
    refine ⟨fun j hj => (hother _ _ (Ne.symm hR.offP)).trans (hR.cells j hj), ⟨hR.fine.code, hR.fine.abroad, hR.fine.trunk, hR.fine.many, ?_, fun k hk => ?_⟩, hR.some, _, hR.at_, hR.off⟩
    · show AreaRow _ (l.getD i noCtry).aa _ _
      rw [hR.at_]
      refine ⟨by simpa [Ctry.first] using hlen, Or.inr ⟨_, 0, rfl, by simpa using hR.lt, fun k hk j hj => ?_⟩⟩
      have hk' : k < (l.getD i noCtry).an := hk
      have h1 := hcell k hk' j hj
      rw [Nat.zero_add]
      show _ = (((l.getD i noCtry).areas.set 0 ⟨((l.getD i noCtry).areas.getD 0 noArea).pre, x, y⟩).getD k noArea).cells[j]?
      by_cases hk0 : k = 0
      · subst hk0
        have e : (((l.getD i noCtry).areas.set 0 ⟨((l.getD i noCtry).areas.getD 0 noArea).pre, x, y⟩).getD 0 noArea) = ⟨((l.getD i noCtry).areas.getD 0 noArea).pre, x, y⟩ := by
          exact set0_eq (by omega)
        rw [e]
        have hc1 := hcell 0 hk' 1 (by omega)
        have hc2 := hcell 0 hk' 2 (by omega)
        simp only [Nat.zero_mul, Nat.zero_add] at h1 hc1 hc2 ⊢
        match j, hj with
        | 0, _ => exact ((World.cell?_setCell_other _ _ _ _ (by simp)).trans (World.cell?_setCell_other _ _ _ _ (by simp))).trans h1
        | 1, _ => exact (World.cell?_setCell_other _ _ _ _ (by simp)).trans (World.cell?_setCell_same _ _ _ hc1)
        | 2, _ => exact World.cell?_setCell_same _ _ _ ((World.cell?_setCell_other _ _ _ _ (by simp)).trans hc2)
      · rw [set0_ne hk0, ← h1]
        exact (World.cell?_setCell_other _ _ _ _ (by intro e; injection e with _ e2 _; omega)).trans (World.cell?_setCell_other _ _ _ _ (by intro e; injection e with _ e2 _; omega))
    · have hk' : k < (l.getD i noCtry).areas.length := by simpa [Ctry.first] using hk
      show AreaFine (((l.getD i noCtry).areas.set 0 ⟨((l.getD i noCtry).areas.getD 0 noArea).pre, x, y⟩).getD k noArea)
      by_cases hk0 : k = 0
      · subst hk0
        rw [set0_eq hk']
        exact ⟨(hR.fine.each 0 hk').pre, x0, x1, y0, y1⟩
      · rw [set0_ne hk0]
        exact hR.fine.each k hk'
  · rw [getD_set_other hir]
    have hi' := hA.each i hi
    refine ⟨fun j hj => (hother _ _ (Ne.symm hR.offP)).trans (hi'.cells j hj), ⟨hi'.fine.code, hi'.fine.abroad, hi'.fine.trunk, hi'.fine.many, ?_, hi'.fine.each⟩, hi'.some, _, hi'.at_, hi'.off⟩
    have := hi'.fine.row
    rw [hi'.at_] at this ⊢
    exact (this.set (by show bs.getD r 0 ≠ bs.getD i 0; exact ha r i hr hi (Ne.symm hir))).set (by show bs.getD r 0 ≠ bs.getD i 0; exact ha r i hr hi (Ne.symm hir))

theorem StreamOk.setP {w : World} {S k P o : Nat} (h : StreamOk w S k) (hP : S < P) (v : Value) : StreamOk (w.setCell ⟨P, o, none⟩ v) S k := h.upto ((Below.refl _ _).setCell (by show S + 1 ≤ P; omega) _)

theorem end_append {S k P : Nat} {w w8 w9 : World} {l : List Ctry} {bs : List Nat} {r : Nat} (hA : PlanAt S P w.heap.size w8 l bs) (hO : PlanOwn w.heap.size w8 l bs) (hS : S < w.heap.size) (hr : r < 3) {x : Area} (hx : AreaFine x) {v9 : Value} {c : Ctry} (hc : l.getD r noCtry = c)
    (hown : w9.ownsRow w.heap.size 72 3 v9 (c.an + 1) (areaCells c.areas ++ x.cells)) (hgr : w8.grownBy w9 (some (bs.getD r 0))) (hat : v9.ownBlock = some (bs.getD r 0) ∨ v9.ownBlock = some w8.heap.size) (hst : StreamOk w8 S k) (hk : Keeps S w w8) :
    ∃ a9 c9, v9 = .slice a9 (c.an + 1) c9 ∧ w9.cell? ⟨P, r * 4 + 3, none⟩ = some (.slice c.aa c.an c.ac) ∧ (∀ j, w9.frozen? ⟨P, j, none⟩ = false) ∧ PlanPost S k w (.returned (.slice (some ⟨P, 0, none⟩) 3 3)) (w9.setCell ⟨P, r * 4 + 3, none⟩ v9) := by
  subst hc
  obtain ⟨a9, c9, hv, he⟩ := end_grow hA hO hS hr hx hown hgr hat
  have hPr : P ≠ bs.getD r 0 := Ne.symm (hA.each r hr).offP
  have hblk : w9.heap[P]? = w8.heap[P]? := hgr.block P hA.lt (fun e => hPr (by injection e))
  have hnew := (hA.each r hr).new
  have hz := hk.size
  refine ⟨a9, c9, hv, (World.cell?_of_block (w := w8) (a := ⟨P, r * 4 + 3, none⟩) hblk).trans ((hA.each r hr).cells 3 (by omega)), fun j => (World.frozen?_of_block (w := w8) (a := ⟨P, j, none⟩) hblk).trans (hA.fro j), he.post ?_ ?_⟩
  · exact StreamOk.setP (hst.upto ((Below.refl (S + 1) w8).grown hgr (by omega) (by intro b hb; injection hb with hb; omega))) (by have := hA.new; omega) _
  · exact (hk.grown0 hgr (by intro b hb; injection hb with hb; omega)).setCell_new hA.new _

theorem bs_string_cs6 (e : Operand → Value) (he : ∀ v, e (.const v) = v) (o : Oper) (w : World)  (p0 : ByteArray) (p1 : ByteArray) (p2 : ByteArray) (p3 : ByteArray) (p4 : ByteArray) (p5 : ByteArray) (ho : o.op = .buildSlice 46 6 #[(0, .const (.string p0)), (1, .const (.string p1)), (2, .const (.string p2)), (3, .const (.string p3)), (4, .const (.string p4)), (5, .const (.string p5))])  :
   (execOp e o).run Tryz.prog w = .ok (.value (.slice (some ⟨w.heap.size, 0, none⟩) 6 6)) (w.alloc (.cells #[.string p0, .string p1, .string p2, .string p3, .string p4, .string p5] 9)) := by
  unfold execOp
  rw [ho]
  simp only [List.map_toArray, List.map_cons, List.map_nil, he]
  kernel_rfl
theorem bs_int_ci3 (e : Operand → Value) (he : ∀ v, e (.const v) = v) (o : Oper) (w : World)  (z0 : Int) (z1 : Int) (z2 : Int) (ho : o.op = .buildSlice 22 3 #[(0, .const (.int .i64 z0)), (1, .const (.int .i64 z1)), (2, .const (.int .i64 z2))])  :
   (execOp e o).run Tryz.prog w = .ok (.value (.slice (some ⟨w.heap.size, 0, none⟩) 3 3)) (w.alloc (.cells #[.int .i64 z0, .int .i64 z1, .int .i64 z2] 3)) := by
  unfold execOp
  rw [ho]
  simp only [List.map_toArray, List.map_cons, List.map_nil, he]
  kernel_rfl
theorem bs_api_Area_tasiiz (e : Operand → Value) (he : ∀ v, e (.const v) = v) (o : Oper) (w : World) (i0 : Nat) (p0_0 : ByteArray) (z0_1 : Int) (z0_2 : Int) (ho : o.op = .buildSlice 66 1 #[(0, .tmp i0)]) (h0 : e (.tmp i0) = .agg #[.string p0_0, .int .i64 z0_1, .int .i64 z0_2]) :
   (execOp e o).run Tryz.prog w = .ok (.value (.slice (some ⟨w.heap.size, 0, none⟩) 1 1)) (w.alloc (.cells #[.string p0_0, .int .i64 z0_1, .int .i64 z0_2] 72)) := by
  unfold execOp
  rw [ho]
  simp only [List.map_toArray, List.map_cons, List.map_nil, h0]
  kernel_rfl
set_option maxRecDepth 100000 in
set_option maxHeartbeats 16000000 in
theorem countries_any (S k : Nat) (w : World) (h : StreamOk w S k) (hk : k ≤ 10000000) : Calls Tryz.prog 7 #[.pointer (some ⟨S, 0, none⟩)] w (PlanPost S (k + 20) w) := by
  have HS := Lib.hid h
  have hlt := h.lt
  clear h
  go_enter Tryz.func7, Tryz.ntmps7
  go_wp2_with fail
  refine (rightCountries_any S k _ HS.out (by omega)).mono ?_
  rintro e w1 ⟨P, l, bs, rfl, hpl, hst1, hk1, hown⟩
  have HP := Lib.hid hpl
  have HS1 := Lib.hid hst1
  have HK1 := Lib.hid hk1
  have HO := Lib.hid hown
  clear hpl hst1 hk1 hown
  as_aux_lemma =>
    go_wp2_with fail
    refine (flip_any S (k + 2) 12 _ HS1.out (by omega) (by decide) (by decide)).mono ?_
    rintro e w2 ⟨fl, rfl, hst2, hkp2⟩
    have HP2 := Lib.hid (HP.out.keeps hkp2)
    have HO2 := Lib.hid (HO.out.keeps hlt hkp2)
    have HS2 := Lib.hid hst2
    have HK2 := Lib.hid (HK1.out.trans hkp2)
    clear hst2 hkp2 HP HO HS1 HK1
    cases fl
    · have HF : Hid (PlanPost S (k + 20) w (.returned (.slice (some ⟨P, 0, none⟩) 3 3)) w2) := HP2.out.post (HS2.out.mono (by omega)) HK2.out
      go_wp2_with fail
      go_ret
      exact HF.out
    · skip
      as_aux_lemma =>
        go_wp2_with fail
        refine (next_any S (k + 2 + 1) 3 _ HS2.out (by omega) (by decide) (by decide)).mono ?_
        rintro e w3 ⟨r, rfl, r0, r1, hst3, hkp3⟩
        obtain ⟨r, rfl⟩ := Int.eq_ofNat_of_zero_le r0
        have hr : r < 3 := by omega
        have HP3 := Lib.hid (HP2.out.keeps hkp3)
        have HO3 := Lib.hid (HO2.out.keeps hlt hkp3)
        have HS3 := Lib.hid hst3
        have HK3 := Lib.hid (HK2.out.trans hkp3)
        clear hst3 hkp3 HP2 HO2 HS2 HK2 r0 r1
        as_aux_lemma =>
          go_wp2_with fail
          refine (next_any S (k + 2 + 1 + 1) 6 _ HS3.out (by omega) (by decide) (by decide)).mono ?_
          rintro e w4 ⟨q, rfl, q0, q1, hst4, hkp4⟩
          have HP4 := Lib.hid (HP3.out.keeps hkp4)
          have HO4 := Lib.hid (HO3.out.keeps hlt hkp4)
          have HS4 := Lib.hid hst4
          have HK4 := Lib.hid (HK3.out.trans hkp4)
          have hl4 := hst4.lt
          have hP4 := HP4.out.lt
          have hPS := HP4.out.offS
          clear hst4 hkp4 HP3 HO3 HS3 HK3
          have hcc := (HP4.out.each r hr).cells
          have k0 := hcc 0 (by omega)
          have k1 := hcc 1 (by omega)
          have k2 := hcc 2 (by omega)
          have k3 := hcc 3 (by omega)
          have kf := HP4.out.fro
          have kfin := (HP4.out.each r hr).fine
          have kat := (HP4.out.each r hr).at_
          have HCR : Hid (l.getD r noCtry = l.getD r noCtry) := rfl
          generalize hcr : l.getD r noCtry = c at k0 k1 k2 k3 kfin kat HCR
          have HCE := Lib.hid hcr
          clear hcr hcc
          obtain ⟨code, abroad, trunk, aa, an, ac, areas⟩ := c
          simp only [Ctry.cells, List.getElem?_cons_zero, List.getElem?_cons_succ, Nat.add_zero] at k0 k1 k2 k3
          obtain ⟨hcode, habr, htr, hmany, -, -⟩ := kfin
          simp only at hcode habr htr hmany kat
          as_aux_lemma =>
            have hq : q = 0 ∨ q = 1 ∨ q = 2 ∨ q = 3 ∨ q = 4 ∨ q = 5 := by omega
            rcases hq with rfl | rfl | rfl | rfl | rfl | rfl
            · clear k3
              as_aux_lemma =>
                go_wp2_with (refine wpList_val rfl (bs_str6 _ (fun _ => rfl) _ _ _ _ _ _ _ _ rfl) ?_)
                refine (some_any S (k + 2 + 1 + 1 + 1) w4.heap.size 6 6 [[], [48], [52], [49, 50, 51, 52], [97], [52, 57]] (fun x => x.length ≤ 100) _ (HS4.out.below (ext_alloc (Below.refl _ _))) (by omega) (by simp) (by omega) (by omega) (by omega) (fun i hi => by match i, hi with | 0, _ | 1, _ | 2, _ | 3, _ | 4, _ | 5, _ => go_simp) (fun i hi => by match i, hi with | 0, _ | 1, _ | 2, _ | 3, _ | 4, _ | 5, _ => decide)).mono ?_
                rintro e w5 ⟨x, rfl, hx, hst5, hkp5⟩
                have m0 : w5.cell? ⟨P, r * 4, none⟩ = some (.string ⟨code.toArray⟩) := (hkp5.cell (p := ⟨P, r * 4, none⟩) (by show P < _; simp; omega) hPS).trans (by go_simp)
                have mf : ∀ j, w5.frozen? ⟨P, j, none⟩ = false := fun j => (hkp5.frozen (p := ⟨P, j, none⟩) (by show P < _; simp; omega) hPS).trans (by go_simp)
                have HK5 := Lib.hid ((HK4.out.alloc _).trans hkp5)
                have HP5 := Lib.hid ((HP4.out.keeps ((Keeps.refl S w4).alloc _)).keeps hkp5)
                have HS5 := Lib.hid hst5
                have HEN : Hid (PlanEnd S P (w5.setCell ⟨P, r * 4 + 0, none⟩ (.string ⟨x.toArray⟩)) (l.set r ⟨x, abroad, trunk, aa, an, ac, areas⟩)) := HP5.out.put hr (by omega) (by rw [HCE.out]; rfl) (by rw [HCE.out]) (by rw [HCE.out]) (by rw [HCE.out]) (show x.length ≤ 100 from hx) habr htr
                have HPB : Hid (w.heap.size ≤ P) := HP4.out.new
                have HF : Hid (PlanPost S (k + 20) w (.returned (.slice (some ⟨P, 0, none⟩) 3 3)) (w5.setCell ⟨P, r * 4, none⟩ (.string ⟨x.toArray⟩))) := HEN.out.post ((HS5.out.setP (by have := HPB.out; omega) _).mono (by omega)) (HK5.out.setCell_new HPB.out _)
                clear hst5 hkp5 k0 k1 k2 kf HP4 HP5 HEN
                as_aux_lemma =>
                  go_wp2_with fail
                  go_ret
                  exact HF.out
            · clear k3
              as_aux_lemma =>
                go_wp2_with (refine wpList_val rfl (bs_str7 _ (fun _ => rfl) _ _ _ _ _ _ _ _ _ rfl) ?_)
                refine (some_any S (k + 2 + 1 + 1 + 1) w4.heap.size 7 7 [[], [48, 48, 48, 48, 48], [120], [48], [51], [48, 51], [48, 51, 48]] (fun x => x.length ≤ 100) _ (HS4.out.below (ext_alloc (Below.refl _ _))) (by omega) (by simp) (by omega) (by omega) (by omega) (fun i hi => by match i, hi with | 0, _ | 1, _ | 2, _ | 3, _ | 4, _ | 5, _ | 6, _ => go_simp) (fun i hi => by match i, hi with | 0, _ | 1, _ | 2, _ | 3, _ | 4, _ | 5, _ | 6, _ => decide)).mono ?_
                rintro e w5 ⟨x, rfl, hx, hst5, hkp5⟩
                have m1 : w5.cell? ⟨P, r * 4 + 1, none⟩ = some (.string ⟨abroad.toArray⟩) := (hkp5.cell (p := ⟨P, r * 4 + 1, none⟩) (by show P < _; simp; omega) hPS).trans (by go_simp)
                have mf : ∀ j, w5.frozen? ⟨P, j, none⟩ = false := fun j => (hkp5.frozen (p := ⟨P, j, none⟩) (by show P < _; simp; omega) hPS).trans (by go_simp)
                have HK5 := Lib.hid ((HK4.out.alloc _).trans hkp5)
                have HP5 := Lib.hid ((HP4.out.keeps ((Keeps.refl S w4).alloc _)).keeps hkp5)
                have HS5 := Lib.hid hst5
                have HEN : Hid (PlanEnd S P (w5.setCell ⟨P, r * 4 + 1, none⟩ (.string ⟨x.toArray⟩)) (l.set r ⟨code, x, trunk, aa, an, ac, areas⟩)) := HP5.out.put hr (by omega) (by rw [HCE.out]; rfl) (by rw [HCE.out]) (by rw [HCE.out]) (by rw [HCE.out]) hcode (show x.length ≤ 100 from hx) htr
                have HPB : Hid (w.heap.size ≤ P) := HP4.out.new
                have HF : Hid (PlanPost S (k + 20) w (.returned (.slice (some ⟨P, 0, none⟩) 3 3)) (w5.setCell ⟨P, r * 4 + 1, none⟩ (.string ⟨x.toArray⟩))) := HEN.out.post ((HS5.out.setP (by have := HPB.out; omega) _).mono (by omega)) (HK5.out.setCell_new HPB.out _)
                clear hst5 hkp5 k0 k1 k2 kf HP4 HP5 HEN
                as_aux_lemma =>
                  go_wp2_with fail
                  go_ret
                  exact HF.out
            · clear k3
              as_aux_lemma =>
                go_wp2_with (refine wpList_val rfl (bs_str4 _ (fun _ => rfl) _ _ _ _ _ _ rfl) ?_)
                refine (some_any S (k + 2 + 1 + 1 + 1) w4.heap.size 4 4 [[48, 48, 48], [48, 48], [120], [51]] (fun x => x.length ≤ 100) _ (HS4.out.below (ext_alloc (Below.refl _ _))) (by omega) (by simp) (by omega) (by omega) (by omega) (fun i hi => by match i, hi with | 0, _ | 1, _ | 2, _ | 3, _ => go_simp) (fun i hi => by match i, hi with | 0, _ | 1, _ | 2, _ | 3, _ => decide)).mono ?_
                rintro e w5 ⟨x, rfl, hx, hst5, hkp5⟩
                have m2 : w5.cell? ⟨P, r * 4 + 2, none⟩ = some (.string ⟨trunk.toArray⟩) := (hkp5.cell (p := ⟨P, r * 4 + 2, none⟩) (by show P < _; simp; omega) hPS).trans (by go_simp)
                have mf : ∀ j, w5.frozen? ⟨P, j, none⟩ = false := fun j => (hkp5.frozen (p := ⟨P, j, none⟩) (by show P < _; simp; omega) hPS).trans (by go_simp)
                have HK5 := Lib.hid ((HK4.out.alloc _).trans hkp5)
                have HP5 := Lib.hid ((HP4.out.keeps ((Keeps.refl S w4).alloc _)).keeps hkp5)
                have HS5 := Lib.hid hst5
                have HEN : Hid (PlanEnd S P (w5.setCell ⟨P, r * 4 + 2, none⟩ (.string ⟨x.toArray⟩)) (l.set r ⟨code, abroad, x, aa, an, ac, areas⟩)) := HP5.out.put hr (by omega) (by rw [HCE.out]; rfl) (by rw [HCE.out]) (by rw [HCE.out]) (by rw [HCE.out]) hcode habr (show x.length ≤ 100 from hx)
                have HPB : Hid (w.heap.size ≤ P) := HP4.out.new
                have HF : Hid (PlanPost S (k + 20) w (.returned (.slice (some ⟨P, 0, none⟩) 3 3)) (w5.setCell ⟨P, r * 4 + 2, none⟩ (.string ⟨x.toArray⟩))) := HEN.out.post ((HS5.out.setP (by have := HPB.out; omega) _).mono (by omega)) (HK5.out.setCell_new HPB.out _)
                clear hst5 hkp5 k0 k1 k2 kf HP4 HP5 HEN
                as_aux_lemma =>
                  go_wp2_with fail
                  go_ret
                  exact HF.out
            · skip
              subst kat
              as_aux_lemma =>
                go_upto_region 13 with (fail)
                refine region_late S (k + 2 + 1 + 1 + 1) 1 16 0 [.val (fun v => .pointer (some ⟨P, r * 4, none⟩) = v), .val (fun v => .pointer (some ⟨P, r * 4, none⟩) = v), .val (fun v => .pointer (some ⟨P, r * 4, none⟩) = v), .val (fun v => .pointer (some ⟨P, r * 4 + 3, none⟩) = v), .val (fun v => .slice (some ⟨bs.getD r 0, 0, none⟩) an ac = v), .val (fun v => .pointer (some ⟨S, 0, none⟩) = v), .arr 6 (· = [.string ⟨#[]⟩, .string ⟨#[56, 57, 49]⟩, .string ⟨#[57, 57]⟩, .string ⟨#[48]⟩, .string ⟨#[49, 50, 51, 52, 53, 54, 55, 56, 57]⟩, .string ⟨#[51, 48]⟩]), .val (fun v => ∃ s1 : List UInt8, (s1.length ≤ 100) ∧ .string ⟨s1.toArray⟩ = v), .val (fun v => .pointer (some ⟨S, 0, none⟩) = v), .arr 3 (· = [.int .i64 3, .int .i64 2, .int .i64 9]), .val (fun v => ∃ z2 : Int, (2 ≤ z2 ∧ z2 ≤ 9) ∧ .int .i64 z2 = v), .val (fun v => .pointer (some ⟨S, 0, none⟩) = v), .arr 3 (· = [.int .i64 9, .int .i64 2, .int .i64 14]), .val (fun v => ∃ z3 : Int, (2 ≤ z3 ∧ z3 ≤ 14) ∧ .int .i64 z3 = v), .val (fun v => ∃ s1 : List UInt8, (s1.length ≤ 100) ∧ ∃ z2 : Int, (2 ≤ z2 ∧ z2 ≤ 9) ∧ ∃ z3 : Int, (2 ≤ z3 ∧ z3 ≤ 14) ∧ .agg #[.string ⟨s1.toArray⟩, .int .i64 z2, .int .i64 z3] = v), .arr 1 (fun vs => ∃ s1 : List UInt8, (s1.length ≤ 100) ∧ ∃ z2 : Int, (2 ≤ z2 ∧ z2 ≤ 9) ∧ ∃ z3 : Int, (2 ≤ z3 ∧ z3 ≤ 14) ∧ ([.string ⟨s1.toArray⟩, .int .i64 z2, .int .i64 z3] : List Value) = vs)] [7, 10, 13] [some 43, some 44, some 45, some 46, some 47, some 48, some 49, some 50, some 51, some 52, some 53, some 54, some 55, some 56, some 57, some 58] (by kernel_rfl) (by kernel_rfl) (by kernel_rfl) (by kernel_rfl) (by kernel_rfl) (by kernel_rfl) rfl (by kernel_rfl) rfl rfl (by kernel_rfl) HS4.out ⟨?_, ?_, ?_, ?_, ?_, ?_, ?_, ?_, ?_, ?_, ?_, ?_, ?_, ?_, ?_, ?_, trivial⟩ ?_ ?_
                · intro a w' c hk hst hc hfr hdp K hK
                  as_aux_lemma =>
                    have E4 : a.eval (.tmp 4) = .pointer (some ⟨P, r * 4, none⟩) := fr_list hfr 4 (by kernel_rfl)
                    have d4 := slot_of E4
                    refine gen_pure (v := .pointer (some ⟨P, r * 4, none⟩)) ?_ (hK _ _ rfl (Keeps.refl _ _) hst)
                    clear hK hdp hfr
                    go_simp
                · intro a w' c hk hst hc hfr hdp K hK
                  as_aux_lemma =>
                    have E4 : a.eval (.tmp 4) = .pointer (some ⟨P, r * 4, none⟩) := fr_list hfr 4 (by kernel_rfl)
                    have d4 := slot_of E4
                    refine gen_pure (v := .pointer (some ⟨P, r * 4, none⟩)) ?_ (hK _ _ rfl (Keeps.refl _ _) hst)
                    clear hK hdp hfr
                    go_simp
                · intro a w' c hk hst hc hfr hdp K hK
                  as_aux_lemma =>
                    have E44 : a.eval (.tmp 44) = .pointer (some ⟨P, r * 4, none⟩) := Eq.symm (hdp 1 44 _ (by kernel_rfl) (by kernel_rfl) rfl)
                    have d44 := slot_of E44
                    refine gen_pure (v := .pointer (some ⟨P, r * 4, none⟩)) ?_ (hK _ _ rfl (Keeps.refl _ _) hst)
                    clear hK hdp hfr
                    go_simp
                · intro a w' c hk hst hc hfr hdp K hK
                  as_aux_lemma =>
                    have E45 : a.eval (.tmp 45) = .pointer (some ⟨P, r * 4, none⟩) := Eq.symm (hdp 2 45 _ (by kernel_rfl) (by kernel_rfl) rfl)
                    have d45 := slot_of E45
                    refine gen_pure (v := .pointer (some ⟨P, r * 4 + 3, none⟩)) ?_ (hK _ _ rfl (Keeps.refl _ _) hst)
                    clear hK hdp hfr
                    go_simp
                · intro a w' c hk hst hc hfr hdp K hK
                  as_aux_lemma =>
                    have E46 : a.eval (.tmp 46) = .pointer (some ⟨P, r * 4 + 3, none⟩) := Eq.symm (hdp 3 46 _ (by kernel_rfl) (by kernel_rfl) rfl)
                    have d46 := slot_of E46
                    have cl : w'.cell? ⟨P, r * 4 + 3, none⟩ = some (.slice (some ⟨bs.getD r 0, 0, none⟩) an ac) := (hk.cell (p := ⟨P, r * 4 + 3, none⟩) hP4 hPS).trans k3
                    refine gen_pure (v := .slice (some ⟨bs.getD r 0, 0, none⟩) an ac) ?_ (hK _ _ rfl (Keeps.refl _ _) hst)
                    clear hK hdp hfr
                    go_simp
                · intro a w' c hk hst hc hfr hdp K hK
                  as_aux_lemma =>
                    have E0 : a.eval (.tmp 0) = .pointer (some ⟨S, 0, none⟩) := fr_list hfr 0 (by kernel_rfl)
                    have d0 := slot_of E0
                    refine gen_pure (v := .pointer (some ⟨S, 0, none⟩)) ?_ (hK _ _ rfl (Keeps.refl _ _) hst)
                    clear hK hdp hfr
                    go_simp
                · intro a w' c hk hst hc hfr hdp K hK
                  as_aux_lemma =>
                    exact gen_alloc (p := (· = ([.string ⟨#[]⟩, .string ⟨#[56, 57, 49]⟩, .string ⟨#[57, 57]⟩, .string ⟨#[48]⟩, .string ⟨#[49, 50, 51, 52, 53, 54, 55, 56, 57]⟩, .string ⟨#[51, 48]⟩] : List Value))) #[.string ⟨#[]⟩, .string ⟨#[56, 57, 49]⟩, .string ⟨#[57, 57]⟩, .string ⟨#[48]⟩, .string ⟨#[49, 50, 51, 52, 53, 54, 55, 56, 57]⟩, .string ⟨#[51, 48]⟩] 9 (bs_string_cs6 _ (fun _ => rfl) _ _ _ _ _ _ _ _ rfl ) rfl hst hK
                · intro a w' c hk hst hc hfr hdp K hK
                  as_aux_lemma =>
                    have E48 : a.eval (.tmp 48) = .pointer (some ⟨S, 0, none⟩) := Eq.symm (hdp 5 48 _ (by kernel_rfl) (by kernel_rfl) rfl)
                    have d48 := slot_of E48
                    have d49 := hdp 6 49 _ (by kernel_rfl) (by kernel_rfl) rfl
                    have hc2 : c + 1 ≤ 3 := hc
                    generalize hv2 : a.eval (.tmp 49) = v2 at d49
                    have d3 := slot_of hv2
                    clear hv2
                    refine gen_call 33 #[.pointer (some ⟨S, 0, none⟩), v2] ?_ (calls_some S _ v2 [[], [56, 57, 49], [57, 57], [48], [49, 50, 51, 52, 53, 54, 55, 56, 57], [51, 48]] (fun s1 => s1.length ≤ 100) w' hst (by omega) d49 (by decide) (by decide) (by decide)) ?_
                    · clear hK hdp hfr; go_simp
                    rintro e w'' ⟨r, rfl, hr, hst2, hkp⟩
                    exact ⟨_, rfl, hK _ _ ⟨r, hr, rfl⟩ hkp (hst2.mono (by simp; omega))⟩
                · intro a w' c hk hst hc hfr hdp K hK
                  as_aux_lemma =>
                    have E0 : a.eval (.tmp 0) = .pointer (some ⟨S, 0, none⟩) := fr_list hfr 0 (by kernel_rfl)
                    have d0 := slot_of E0
                    refine gen_pure (v := .pointer (some ⟨S, 0, none⟩)) ?_ (hK _ _ rfl (Keeps.refl _ _) hst)
                    clear hK hdp hfr
                    go_simp
                · intro a w' c hk hst hc hfr hdp K hK
                  as_aux_lemma =>
                    exact gen_alloc (p := (· = ([.int .i64 3, .int .i64 2, .int .i64 9] : List Value))) #[.int .i64 3, .int .i64 2, .int .i64 9] 3 (bs_int_ci3 _ (fun _ => rfl) _ _ _ _ _ rfl ) rfl hst hK
                · intro a w' c hk hst hc hfr hdp K hK
                  as_aux_lemma =>
                    have E51 : a.eval (.tmp 51) = .pointer (some ⟨S, 0, none⟩) := Eq.symm (hdp 8 51 _ (by kernel_rfl) (by kernel_rfl) rfl)
                    have d51 := slot_of E51
                    have d52 := hdp 9 52 _ (by kernel_rfl) (by kernel_rfl) rfl
                    have hc2 : c + 1 ≤ 3 := hc
                    generalize hv2 : a.eval (.tmp 52) = v2 at d52
                    have d3 := slot_of hv2
                    clear hv2
                    refine gen_call 41 #[.pointer (some ⟨S, 0, none⟩), v2] ?_ (calls_pick S _ v2 [3, 2, 9] (fun z2 => 2 ≤ z2 ∧ z2 ≤ 9) w' hst (by omega) d52 (by decide) (by decide) (by decide)) ?_
                    · clear hK hdp hfr; go_simp
                    rintro e w'' ⟨r, rfl, hr, hst2, hkp⟩
                    exact ⟨_, rfl, hK _ _ ⟨r, hr, rfl⟩ hkp (hst2.mono (by simp; omega))⟩
                · intro a w' c hk hst hc hfr hdp K hK
                  as_aux_lemma =>
                    have E0 : a.eval (.tmp 0) = .pointer (some ⟨S, 0, none⟩) := fr_list hfr 0 (by kernel_rfl)
                    have d0 := slot_of E0
                    refine gen_pure (v := .pointer (some ⟨S, 0, none⟩)) ?_ (hK _ _ rfl (Keeps.refl _ _) hst)
                    clear hK hdp hfr
                    go_simp
                · intro a w' c hk hst hc hfr hdp K hK
                  as_aux_lemma =>
                    exact gen_alloc (p := (· = ([.int .i64 9, .int .i64 2, .int .i64 14] : List Value))) #[.int .i64 9, .int .i64 2, .int .i64 14] 3 (bs_int_ci3 _ (fun _ => rfl) _ _ _ _ _ rfl ) rfl hst hK
                · intro a w' c hk hst hc hfr hdp K hK
                  as_aux_lemma =>
                    have E54 : a.eval (.tmp 54) = .pointer (some ⟨S, 0, none⟩) := Eq.symm (hdp 11 54 _ (by kernel_rfl) (by kernel_rfl) rfl)
                    have d54 := slot_of E54
                    have d55 := hdp 12 55 _ (by kernel_rfl) (by kernel_rfl) rfl
                    have hc2 : c + 1 ≤ 3 := hc
                    generalize hv2 : a.eval (.tmp 55) = v2 at d55
                    have d3 := slot_of hv2
                    clear hv2
                    refine gen_call 41 #[.pointer (some ⟨S, 0, none⟩), v2] ?_ (calls_pick S _ v2 [9, 2, 14] (fun z3 => 2 ≤ z3 ∧ z3 ≤ 14) w' hst (by omega) d55 (by decide) (by decide) (by decide)) ?_
                    · clear hK hdp hfr; go_simp
                    rintro e w'' ⟨r, rfl, hr, hst2, hkp⟩
                    exact ⟨_, rfl, hK _ _ ⟨r, hr, rfl⟩ hkp (hst2.mono (by simp; omega))⟩
                · intro a w' c hk hst hc hfr hdp K hK
                  as_aux_lemma =>
                    obtain ⟨s1, hs1, e50⟩ := hdp 7 50 _ (by kernel_rfl) (by kernel_rfl) rfl
                    have E50 := Eq.symm e50
                    have d50 := slot_of E50
                    clear e50
                    obtain ⟨z2, hz2, e53⟩ := hdp 10 53 _ (by kernel_rfl) (by kernel_rfl) rfl
                    have E53 := Eq.symm e53
                    have d53 := slot_of E53
                    clear e53
                    obtain ⟨z3, hz3, e56⟩ := hdp 13 56 _ (by kernel_rfl) (by kernel_rfl) rfl
                    have E56 := Eq.symm e56
                    have d56 := slot_of E56
                    clear e56
                    refine gen_pure (v := .agg #[.string ⟨s1.toArray⟩, .int .i64 z2, .int .i64 z3]) ?_ (hK _ _ ⟨s1, hs1, z2, hz2, z3, hz3, rfl⟩ (Keeps.refl _ _) hst)
                    clear hK hdp hfr
                    go_simp
                · intro a w' c hk hst hc hfr hdp K hK
                  as_aux_lemma =>
                    obtain ⟨s1, hs1, z2, hz2, z3, hz3, e57⟩ := hdp 14 57 _ (by kernel_rfl) (by kernel_rfl) rfl
                    have E57 := Eq.symm e57
                    have d57 := slot_of E57
                    clear e57
                    exact gen_alloc (p := (fun vs => ∃ s1 : List UInt8, (s1.length ≤ 100) ∧ ∃ z2 : Int, (2 ≤ z2 ∧ z2 ≤ 9) ∧ ∃ z3 : Int, (2 ≤ z3 ∧ z3 ≤ 14) ∧ ([.string ⟨s1.toArray⟩, .int .i64 z2, .int .i64 z3] : List Value) = vs)) #[.string ⟨s1.toArray⟩, .int .i64 z2, .int .i64 z3] 72 (bs_api_Area_tasiiz _ (fun _ => rfl) _ _ _ _ _ _ rfl E57) ⟨s1, hs1, z2, hz2, z3, hz3, rfl⟩ hst hK
                · intro w8 hk8 hst8
                  rintro _ rfl _ - _ - _ - _ rfl _ - _ - _ - _ - _ - _ - _ - _ - _ - _ - _ ⟨g58, _, rfl, ⟨s1, hs1, z2, hz2, z3, hz3, rfl⟩, hgb58, hgl58, hgc58⟩
                  simp only [ForVals, Act.put, List.setIfInBounds_toArray, List.set_cons_zero, List.set_cons_succ, List.drop_succ_cons, List.drop_zero]
                  have kd : Keeps S w4 w8 := Keeps.trans (by exact Keeps.of_below (ext_drew (Below.refl _ _))) hk8
                  have HP8 := Lib.hid (HP4.out.keeps kd)
                  have HO8 := Lib.hid (HO4.out.keeps hlt kd)
                  have HK8 := Lib.hid (HK4.out.trans kd)
                  have HS8 := Lib.hid hst8
                  have hown := HO8.out.own r hr
                  have hfew := HO8.out.few r hr
                  have hcap := (HO8.out.cap r hr).symm
                  rw [HCE.out] at hown hfew hcap
                  simp only at hown hfew hcap
                  subst hcap
                  have hAF : Hid (AreaFine ⟨s1, z2, z3⟩) := ⟨hs1, by show (-4000000000000 : Int) ≤ z2; omega, by show z2 ≤ (4000000000000 : Int); omega, by show (-4000000000000 : Int) ≤ z3; omega, by show z3 ≤ (4000000000000 : Int); omega⟩
                  have hoS : w.heap.size ≤ w8.heap.size := HK8.out.size
                  have hl8 := HS8.out.lt
                  clear hk8 hst8 kd
                  obtain ⟨i0, hi, hz0, hz1, hz2⟩ := info_parts Tryz.infoArea
                  have hnews : ∀ (j : Nat) u, ([.string ⟨s1.toArray⟩, .int .i64 z2, .int .i64 z3] : List Value)[j]? = some u → w8.cell? ((⟨g58, 0, none⟩ : Addr).add j) = some u := fun j u hj => by rw [addr_add0]; exact hgc58 j u hj
                  go_wp2_with (at_builtin; refine wpList_append_own_at _ rfl (.tmp 47) (.tmp 58) 66 rfl w.heap.size 72 i0 (.agg #[.string ⟨#[]⟩, .int .i64 0, .int .i64 0]) 3 32 Tryz.underlying66 hi hz0 hz1 hz2 rfl (by decide) (.slice (some ⟨bs.getD r 0, 0, none⟩) an an) an _ rfl hown ⟨g58, 0, none⟩ 1 1 [.string ⟨s1.toArray⟩, .int .i64 z2, .int .i64 z3] rfl rfl hnews (by simp [Value.oneCell']) (by simp only [maxLen]; omega) (by omega) hoS ?_; intro v9 w9 hown9 hgr9 _ hat9; obtain ⟨a9, c9, rfl, m3, mf, HF⟩ := end_append HP8.out HO8.out hlt hr hAF.out HCE.out hown9 hgr9 hat9 HS8.out HK8.out; have HF := Lib.hid HF; clear hown9 hgr9 hat9 k3 kf hown HP8 HO8 HK8 HS8; simp only at m3)
                  go_ret
                  exact HF.out.mono (by simp)
                · intro w8 hk8 hst8
                  rintro _ - _ - _ - _ rfl _ - _ - _ - _ - _ - _ - _ - _ - _ - _ - _ ⟨g58, _, rfl, ⟨s1, hs1, z2, hz2, z3, hz3, rfl⟩, hgb58, hgl58, hgc58⟩
                  simp only [ForVals, Act.put, List.setIfInBounds_toArray, List.set_cons_zero, List.set_cons_succ, List.drop_succ_cons, List.drop_zero]
                  have kd : Keeps S w4 w8 := Keeps.trans (by exact Keeps.of_below (ext_drew (Below.refl _ _))) hk8
                  have HP8 := Lib.hid (HP4.out.keeps kd)
                  have HO8 := Lib.hid (HO4.out.keeps hlt kd)
                  have HK8 := Lib.hid (HK4.out.trans kd)
                  have HS8 := Lib.hid hst8
                  have hown := HO8.out.own r hr
                  have hfew := HO8.out.few r hr
                  have hcap := (HO8.out.cap r hr).symm
                  rw [HCE.out] at hown hfew hcap
                  simp only at hown hfew hcap
                  subst hcap
                  have hAF : Hid (AreaFine ⟨s1, z2, z3⟩) := ⟨hs1, by show (-4000000000000 : Int) ≤ z2; omega, by show z2 ≤ (4000000000000 : Int); omega, by show (-4000000000000 : Int) ≤ z3; omega, by show z3 ≤ (4000000000000 : Int); omega⟩
                  have hoS : w.heap.size ≤ w8.heap.size := HK8.out.size
                  have hl8 := HS8.out.lt
                  clear hk8 hst8 kd
                  obtain ⟨i0, hi, hz0, hz1, hz2⟩ := info_parts Tryz.infoArea
                  have hnews : ∀ (j : Nat) u, ([.string ⟨s1.toArray⟩, .int .i64 z2, .int .i64 z3] : List Value)[j]? = some u → w8.cell? ((⟨g58, 0, none⟩ : Addr).add j) = some u := fun j u hj => by rw [addr_add0]; exact hgc58 j u hj
                  go_wp2_with (at_builtin; refine wpList_append_own_at _ rfl (.tmp 47) (.tmp 58) 66 rfl w.heap.size 72 i0 (.agg #[.string ⟨#[]⟩, .int .i64 0, .int .i64 0]) 3 32 Tryz.underlying66 hi hz0 hz1 hz2 rfl (by decide) (.slice (some ⟨bs.getD r 0, 0, none⟩) an an) an _ rfl hown ⟨g58, 0, none⟩ 1 1 [.string ⟨s1.toArray⟩, .int .i64 z2, .int .i64 z3] rfl rfl hnews (by simp [Value.oneCell']) (by simp only [maxLen]; omega) (by omega) hoS ?_; intro v9 w9 hown9 hgr9 _ hat9; obtain ⟨a9, c9, rfl, m3, mf, HF⟩ := end_append HP8.out HO8.out hlt hr hAF.out HCE.out hown9 hgr9 hat9 HS8.out HK8.out; have HF := Lib.hid HF; clear hown9 hgr9 hat9 k3 kf hown HP8 HO8 HK8 HS8; simp only at m3)
                  go_ret
                  exact HF.out.mono (by simp)
            · skip
              subst kat
              as_aux_lemma =>
                go_upto_region 15 with (fail)
                refine region_all S (k + 2 + 1 + 1 + 1) 2 12 10 [.val (fun v => .pointer (some ⟨P, r * 4, none⟩) = v), .val (fun v => .pointer (some ⟨P, r * 4, none⟩) = v), .val (fun v => .pointer (some ⟨P, r * 4 + 3, none⟩) = v), .val (fun v => .slice (some ⟨bs.getD r 0, 0, none⟩) an ac = v), .val (fun v => .pointer (some ⟨P, r * 4, none⟩) = v), .val (fun v => .pointer (some ⟨P, r * 4, none⟩) = v), .val (fun v => .pointer (some ⟨P, r * 4 + 3, none⟩) = v), .val (fun v => .slice (some ⟨bs.getD r 0, 0, none⟩) an ac = v), .val (fun v => .pointer (some ⟨S, 0, none⟩) = v), .val (fun v => ∃ z1 : Int, (-1099511627776 ≤ z1 ∧ z1 ≤ 1099511627776) ∧ .int .i64 z1 = v), .val (fun v => .pointer (some ⟨S, 0, none⟩) = v), .val (fun v => ∃ z2 : Int, (-1099511627776 ≤ z2 ∧ z2 ≤ 1099511627776) ∧ .int .i64 z2 = v)] [9, 11] [some 64, some 65, some 66, some 67, some 68, some 69, some 70, some 71, some 72, some 73, some 74, some 75] (by kernel_rfl) (by kernel_rfl) (by kernel_rfl) (by kernel_rfl) (by kernel_rfl) (by kernel_rfl) rfl (by kernel_rfl) rfl rfl (by kernel_rfl) HS4.out ⟨?_, ?_, ?_, ?_, ?_, ?_, ?_, ?_, ?_, ?_, ?_, ?_, trivial⟩ ?_
                · intro a w' c hk hst hc hfr hdp K hK
                  as_aux_lemma =>
                    have E4 : a.eval (.tmp 4) = .pointer (some ⟨P, r * 4, none⟩) := fr_list hfr 4 (by kernel_rfl)
                    have d4 := slot_of E4
                    refine gen_pure (v := .pointer (some ⟨P, r * 4, none⟩)) ?_ (hK _ _ rfl (Keeps.refl _ _) hst)
                    clear hK hdp hfr
                    go_simp
                · intro a w' c hk hst hc hfr hdp K hK
                  as_aux_lemma =>
                    have E64 : a.eval (.tmp 64) = .pointer (some ⟨P, r * 4, none⟩) := Eq.symm (hdp 0 64 _ (by kernel_rfl) (by kernel_rfl) rfl)
                    have d64 := slot_of E64
                    refine gen_pure (v := .pointer (some ⟨P, r * 4, none⟩)) ?_ (hK _ _ rfl (Keeps.refl _ _) hst)
                    clear hK hdp hfr
                    go_simp
                · intro a w' c hk hst hc hfr hdp K hK
                  as_aux_lemma =>
                    have E65 : a.eval (.tmp 65) = .pointer (some ⟨P, r * 4, none⟩) := Eq.symm (hdp 1 65 _ (by kernel_rfl) (by kernel_rfl) rfl)
                    have d65 := slot_of E65
                    refine gen_pure (v := .pointer (some ⟨P, r * 4 + 3, none⟩)) ?_ (hK _ _ rfl (Keeps.refl _ _) hst)
                    clear hK hdp hfr
                    go_simp
                · intro a w' c hk hst hc hfr hdp K hK
                  as_aux_lemma =>
                    have E66 : a.eval (.tmp 66) = .pointer (some ⟨P, r * 4 + 3, none⟩) := Eq.symm (hdp 2 66 _ (by kernel_rfl) (by kernel_rfl) rfl)
                    have d66 := slot_of E66
                    have cl : w'.cell? ⟨P, r * 4 + 3, none⟩ = some (.slice (some ⟨bs.getD r 0, 0, none⟩) an ac) := (hk.cell (p := ⟨P, r * 4 + 3, none⟩) hP4 hPS).trans k3
                    refine gen_pure (v := .slice (some ⟨bs.getD r 0, 0, none⟩) an ac) ?_ (hK _ _ rfl (Keeps.refl _ _) hst)
                    clear hK hdp hfr
                    go_simp
                · intro a w' c hk hst hc hfr hdp K hK
                  as_aux_lemma =>
                    have E4 : a.eval (.tmp 4) = .pointer (some ⟨P, r * 4, none⟩) := fr_list hfr 4 (by kernel_rfl)
                    have d4 := slot_of E4
                    refine gen_pure (v := .pointer (some ⟨P, r * 4, none⟩)) ?_ (hK _ _ rfl (Keeps.refl _ _) hst)
                    clear hK hdp hfr
                    go_simp
                · intro a w' c hk hst hc hfr hdp K hK
                  as_aux_lemma =>
                    have E68 : a.eval (.tmp 68) = .pointer (some ⟨P, r * 4, none⟩) := Eq.symm (hdp 4 68 _ (by kernel_rfl) (by kernel_rfl) rfl)
                    have d68 := slot_of E68
                    refine gen_pure (v := .pointer (some ⟨P, r * 4, none⟩)) ?_ (hK _ _ rfl (Keeps.refl _ _) hst)
                    clear hK hdp hfr
                    go_simp
                · intro a w' c hk hst hc hfr hdp K hK
                  as_aux_lemma =>
                    have E69 : a.eval (.tmp 69) = .pointer (some ⟨P, r * 4, none⟩) := Eq.symm (hdp 5 69 _ (by kernel_rfl) (by kernel_rfl) rfl)
                    have d69 := slot_of E69
                    refine gen_pure (v := .pointer (some ⟨P, r * 4 + 3, none⟩)) ?_ (hK _ _ rfl (Keeps.refl _ _) hst)
                    clear hK hdp hfr
                    go_simp
                · intro a w' c hk hst hc hfr hdp K hK
                  as_aux_lemma =>
                    have E70 : a.eval (.tmp 70) = .pointer (some ⟨P, r * 4 + 3, none⟩) := Eq.symm (hdp 6 70 _ (by kernel_rfl) (by kernel_rfl) rfl)
                    have d70 := slot_of E70
                    have cl : w'.cell? ⟨P, r * 4 + 3, none⟩ = some (.slice (some ⟨bs.getD r 0, 0, none⟩) an ac) := (hk.cell (p := ⟨P, r * 4 + 3, none⟩) hP4 hPS).trans k3
                    refine gen_pure (v := .slice (some ⟨bs.getD r 0, 0, none⟩) an ac) ?_ (hK _ _ rfl (Keeps.refl _ _) hst)
                    clear hK hdp hfr
                    go_simp
                · intro a w' c hk hst hc hfr hdp K hK
                  as_aux_lemma =>
                    have E0 : a.eval (.tmp 0) = .pointer (some ⟨S, 0, none⟩) := fr_list hfr 0 (by kernel_rfl)
                    have d0 := slot_of E0
                    refine gen_pure (v := .pointer (some ⟨S, 0, none⟩)) ?_ (hK _ _ rfl (Keeps.refl _ _) hst)
                    clear hK hdp hfr
                    go_simp
                · intro a w' c hk hst hc hfr hdp K hK
                  as_aux_lemma =>
                    have E72 : a.eval (.tmp 72) = .pointer (some ⟨S, 0, none⟩) := Eq.symm (hdp 8 72 _ (by kernel_rfl) (by kernel_rfl) rfl)
                    have d72 := slot_of E72
                    have hc2 : c + 1 ≤ 2 := hc
                    refine gen_call 42 #[.pointer (some ⟨S, 0, none⟩), .int .i64 1, .int .i64 6] ?_ (odd_any S _ 1 6 w' hst (by omega) (by omega) (by omega) (by omega)) ?_
                    · clear hK hdp hfr; go_simp
                    rintro e w'' ⟨r, rfl, hr, hst2, hkp⟩
                    exact ⟨_, rfl, hK _ _ ⟨r, hr, rfl⟩ hkp (hst2.mono (by simp; omega))⟩
                · intro a w' c hk hst hc hfr hdp K hK
                  as_aux_lemma =>
                    have E0 : a.eval (.tmp 0) = .pointer (some ⟨S, 0, none⟩) := fr_list hfr 0 (by kernel_rfl)
                    have d0 := slot_of E0
                    refine gen_pure (v := .pointer (some ⟨S, 0, none⟩)) ?_ (hK _ _ rfl (Keeps.refl _ _) hst)
                    clear hK hdp hfr
                    go_simp
                · intro a w' c hk hst hc hfr hdp K hK
                  as_aux_lemma =>
                    have E74 : a.eval (.tmp 74) = .pointer (some ⟨S, 0, none⟩) := Eq.symm (hdp 10 74 _ (by kernel_rfl) (by kernel_rfl) rfl)
                    have d74 := slot_of E74
                    have hc2 : c + 1 ≤ 2 := hc
                    refine gen_call 42 #[.pointer (some ⟨S, 0, none⟩), .int .i64 3, .int .i64 14] ?_ (odd_any S _ 3 14 w' hst (by omega) (by omega) (by omega) (by omega)) ?_
                    · clear hK hdp hfr; go_simp
                    rintro e w'' ⟨r, rfl, hr, hst2, hkp⟩
                    exact ⟨_, rfl, hK _ _ ⟨r, hr, rfl⟩ hkp (hst2.mono (by simp; omega))⟩
                intro w8 hk8 hst8
                rintro _ - _ - _ - _ rfl _ - _ - _ - _ rfl _ - _ ⟨z1, hz1, rfl⟩ _ - _ ⟨z2, hz2, rfl⟩
                simp only [ForVals, Act.put, List.setIfInBounds_toArray, List.set_cons_zero, List.set_cons_succ, List.drop_succ_cons, List.drop_zero]
                have kd : Keeps S w4 w8 := Keeps.trans (by exact Keeps.of_below (ext_drew (Below.refl _ _))) hk8
                have HP8 := Lib.hid (HP4.out.keeps kd)
                have HK8 := Lib.hid (HK4.out.trans kd)
                have hR := HP8.out.each r hr
                have h1an := hR.some
                have hrow := hR.fine.row
                have hnew := hR.new
                have hbl := hR.lt
                have hfz := hR.fro
                have hbS := hR.off
                rw [HCE.out] at hrow h1an
                simp only at hrow h1an
                have hz8 := HK8.out.size
                have HF : Hid (PlanPost S (k + 20) w (.returned (.slice (some ⟨P, 0, none⟩) 3 3)) ((w8.setCell ⟨bs.getD r 0, 1, none⟩ (.int .i64 z1)).setCell ⟨bs.getD r 0, 2, none⟩ (.int .i64 z2))) := (end_low HP8.out HO4.out.alone hr (by omega) (by omega) (by omega) (by omega)).post ((hst8.upto (((Below.refl (S + 1) w8).setCell (by show S + 1 ≤ bs.getD r 0; omega) _).setCell (by show S + 1 ≤ bs.getD r 0; omega) _)).mono (by simp)) ((HK8.out.setCell_new hnew _).setCell_new hnew _)
                obtain ⟨c1, c2⟩ : w8.cell? ⟨bs.getD r 0, 1, none⟩ = some (.int .i64 (areas.getD 0 noArea).low) ∧ w8.cell? ⟨bs.getD r 0, 2, none⟩ = some (.int .i64 (areas.getD 0 noArea).high) := by
                  rcases hrow.row with h | ⟨b9, off, ha, hl, hc⟩
                  · omega
                  · injection ha with ha
                    injection ha with e1 e2
                    subst e1 e2
                    exact ⟨hc 0 (by omega) 1 (by omega), hc 0 (by omega) 2 (by omega)⟩
                clear hR hrow hk8 hst8 kd HP8 HK8 HP4 HO4 k0 k1 k2 k3 kf
                generalize bs.getD r 0 = B at *
                go_wp2_with fail
                go_ret
                exact HF.out
            · have HRV : Hid (Calls Tryz.prog 43 #[.slice (some ⟨P, 0, none⟩) 3 3] w4 fun e w' => e = .returned (.tuple #[]) ∧ PlanPost S (k + 20) w (.returned (.slice (some ⟨P, 0, none⟩) 3 3)) w') := by
                have hA := HP4.out
                have hnew := hA.new
                refine (reverse3 w4 P (l.getD 0 noCtry) (l.getD 1 noCtry) (l.getD 2 noCtry) hP4 (fun j hj => ?_) hA.fro).mono ?_
                · match j, hj with
                  | 0, _ => exact (hA.each 0 (by omega)).cells 0 (by omega)
                  | 1, _ => exact (hA.each 0 (by omega)).cells 1 (by omega)
                  | 2, _ => exact (hA.each 0 (by omega)).cells 2 (by omega)
                  | 3, _ => exact (hA.each 0 (by omega)).cells 3 (by omega)
                  | 4, _ => exact (hA.each 1 (by omega)).cells 0 (by omega)
                  | 5, _ => exact (hA.each 1 (by omega)).cells 1 (by omega)
                  | 6, _ => exact (hA.each 1 (by omega)).cells 2 (by omega)
                  | 7, _ => exact (hA.each 1 (by omega)).cells 3 (by omega)
                  | 8, _ => exact (hA.each 2 (by omega)).cells 0 (by omega)
                  | 9, _ => exact (hA.each 2 (by omega)).cells 1 (by omega)
                  | 10, _ => exact (hA.each 2 (by omega)).cells 2 (by omega)
                  | 11, _ => exact (hA.each 2 (by omega)).cells 3 (by omega)
                rintro e w5 ⟨rfl, hcl, hkr⟩
                have hsz := hkr.size
                have hb5 : Below P w4 w5 := hkr.below (by omega) (Nat.le_refl _)
                have hfin : ∀ i, i < 3 → CtryFine w5 (l.getD i noCtry) := fun i hi => by
                  have hi' := hA.each i hi
                  refine ⟨hi'.fine.code, hi'.fine.abroad, hi'.fine.trunk, hi'.fine.many, ?_, hi'.fine.each⟩
                  have := hi'.fine.row
                  rw [hi'.at_] at this ⊢
                  refine ⟨this.len, this.row.imp id ?_⟩
                  rintro ⟨b9, off, ha, hl, hcc⟩
                  injection ha with ha
                  injection ha with e1 e2
                  subst e1 e2
                  exact ⟨_, 0, rfl, Nat.lt_of_lt_of_le hl hsz, fun q hq j hj => (World.cell?_of_block (w := w4) (hkr.block _ hi'.lt hi'.offP)).trans (hcc q hq j hj)⟩
                refine ⟨rfl, PlanEnd.post (l := [l.getD 2 noCtry, l.getD 1 noCtry, l.getD 0 noCtry]) ⟨rfl, fun i hi => ?_, hPS, by omega⟩ ((HS4.out.upto (hb5.mono (by omega))).mono (by omega)) ?_⟩
                · match i, hi with
                  | 0, _ => exact ⟨fun j hj => by match j, hj with | 0, _ => exact hcl 0 (by omega) | 1, _ => exact hcl 1 (by omega) | 2, _ => exact hcl 2 (by omega) | 3, _ => exact hcl 3 (by omega), hfin 2 (by omega), (hA.each 2 (by omega)).some, _, (hA.each 2 (by omega)).at_, (hA.each 2 (by omega)).off⟩
                  | 1, _ => exact ⟨fun j hj => by match j, hj with | 0, _ => exact hcl 4 (by omega) | 1, _ => exact hcl 5 (by omega) | 2, _ => exact hcl 6 (by omega) | 3, _ => exact hcl 7 (by omega), hfin 1 (by omega), (hA.each 1 (by omega)).some, _, (hA.each 1 (by omega)).at_, (hA.each 1 (by omega)).off⟩
                  | 2, _ => exact ⟨fun j hj => by match j, hj with | 0, _ => exact hcl 8 (by omega) | 1, _ => exact hcl 9 (by omega) | 2, _ => exact hcl 10 (by omega) | 3, _ => exact hcl 11 (by omega), hfin 0 (by omega), (hA.each 0 (by omega)).some, _, (hA.each 0 (by omega)).at_, (hA.each 0 (by omega)).off⟩
                · have hkk := HK4.out
                  exact ⟨hkr.os.trans hkk.os, hkr.tape.trans hkk.tape, hkr.output.trans hkk.output, by have := hkk.size; omega, fun q hq hn => (hkr.block q (by have := hkk.size; omega) (by omega)).trans (hkk.block q hq hn)⟩
              clear k0 k1 k2 k3 kf HP4 HO4
              as_aux_lemma =>
                go_wp2_with fail
                refine HRV.out.mono ?_
                rintro e w5 ⟨rfl, HF⟩
                have HF := Lib.hid HF
                go_wp2_with fail
                go_ret
                exact HF.out
end Go.Proofs.YthajppcmmmkfcaaGreatDoor

set_option linter.unusedVariables false
set_option linter.unusedSimpArgs false
namespace Go.Proofs.YthajppcmmmkfcaaGreatDoor
open Go.RowKit

theorem atoi_l (s : List UInt8) (n : Int) (hl : s.length ≤ 18) (h : Lib.atoi s = some n) (w : World) : Calls Tryz.prog 135 #[.string ⟨s.toArray⟩] w fun e w' => e = .returned (.tuple #[.int .i64 n, .nilIface]) ∧ Below w.heap.size w w' := (Tryz.strconv_Atoi ⟨s.toArray⟩ n hl h w).mono (fun e w' ⟨h1, t, h2⟩ => ⟨h1, by rw [h2]; exact ⟨rfl, rfl, rfl, by rw [Lib.bytesWorld_size]; omega, fun k hk => Lib.bytesWorld_at_old w _ _ k hk⟩⟩)

set_option maxRecDepth 100000 in
set_option maxHeartbeats 1000000 in
theorem spanOf_any (w : World) (f t : List UInt8) (a b : Int) (hf : f.length ≤ 16) (ht : t.length ≤ 16) (hf1 : 1 ≤ f.length) (ht1 : 1 ≤ t.length) (ha : Lib.atoi (f.drop 1) = some a) (hb : Lib.atoi (t.drop 1) = some b) : Calls Tryz.prog 123 #[.agg #[.string ⟨f.toArray⟩, .string ⟨t.toArray⟩]] w fun e w' => e = .returned (.agg #[.int .i64 ((f.length : Int) - 1), .int .i64 a, .int .i64 b]) ∧ Below w.heap.size w w' := by
  have HA := Lib.hid (fun w => atoi_l (f.drop 1) a (by rw [List.length_drop]; omega) ha w)
  have HB := Lib.hid (fun w => atoi_l (t.drop 1) b (by rw [List.length_drop]; omega) hb w)
  clear ha hb
  go_enter Tryz.func123, Tryz.ntmps123
  go_wp2_with fail
  rw [extract_drop]
  refine (HA.out _).mono ?_
  rintro e w1 ⟨rfl, hb1⟩
  obtain ⟨qc, qf⟩ := bcell hb1
  have hz1 : w.heap.size + 1 < w1.heap.size := by have := hb1.size; simp at this; omega
  have hz0 : w.heap.size < w1.heap.size := by omega
  have HB1 : Hid (Below w.heap.size w w1) := ext_trans (ext_alloc (ext_alloc (Below.refl _ _))) hb1
  have c0 : w1.cell? ⟨w.heap.size, 0, none⟩ = some (.string ⟨f.toArray⟩) := (qc _ 0 (by simp; omega)).trans (by go_simp)
  have c1 : w1.cell? ⟨w.heap.size, 1, none⟩ = some (.string ⟨t.toArray⟩) := (qc _ 1 (by simp; omega)).trans (by go_simp)
  have r0 : w1.cell? ⟨w.heap.size + 1, 0, none⟩ = some (.int .i64 0) := (qc _ 0 (by simp)).trans (by go_simp)
  have r1 : w1.cell? ⟨w.heap.size + 1, 1, none⟩ = some (.int .i64 0) := (qc _ 1 (by simp)).trans (by go_simp)
  have r2 : w1.cell? ⟨w.heap.size + 1, 2, none⟩ = some (.int .i64 0) := (qc _ 2 (by simp)).trans (by go_simp)
  have rf : ∀ j, w1.frozen? ⟨w.heap.size + 1, j, none⟩ = false := fun j => (qf _ j (by simp)).trans (by go_simp)
  clear qc qf hb1
  as_aux_lemma =>
    go_wp2_with fail
    rw [extract_drop]
    refine (HB.out _).mono ?_
    rintro e w2 ⟨rfl, hb2⟩
    obtain ⟨qc, qf⟩ := bcell hb2
    have HB2 := Lib.hid (ext_trans HB1.out hb2)
    have d0 := (qc _ 0 hz0).trans c0
    have s0 := (qc _ 0 hz1).trans r0
    have s1 := (qc _ 1 hz1).trans r1
    have s2 := (qc _ 2 hz1).trans r2
    have sf : ∀ j, w2.frozen? ⟨w.heap.size + 1, j, none⟩ = false := fun j => (qf _ j hz1).trans (rf j)
    clear qc qf hb2 c0 c1 r0 r1 r2 rf
    have HTX : Hid (w2.there (w.heap.size + 1) 0 3) := there3 s0 s1 s2 sf
    as_aux_lemma =>
      go_wp2_with fail
      rw [row3]
      have HC9 := Lib.hid (World.rangeAt_setCells_same w2 (w.heap.size + 1) 0 [.int .i64 ((f.length : Int) - 1), .int .i64 a, .int .i64 b] (HTX.out))
      have HB9 := Lib.hid (setCells_ext (B := w.heap.size + 1) (Nat.le_succ _) [.int .i64 ((f.length : Int) - 1), .int .i64 a, .int .i64 b] w2 0 HB2.out)
      generalize World.setCells w2 (w.heap.size + 1) 0 _ = W9 at HC9 HB9 ⊢
      refine bodyPost_ret (?_ : _ = Result.ok (.agg #[.int .i64 ((f.length : Int) - 1), .int .i64 a, .int .i64 b]) _) rfl ?_
      · exact results_cell1 (t := 2) (by rfl) _ _ _ Tryz.isAgg137 Tryz.sizeOf137 (by rfl) [.int .i64 ((f.length : Int) - 1), .int .i64 a, .int .i64 b] rfl (fun j v hj => by have := HC9.out j v hj; rw [Nat.zero_add] at this; exact this)
      exact ⟨rfl, HB9.out⟩

def r0S : List UInt8 := [43, 49, 48, 48, 48]
def r1S : List UInt8 := [43, 49, 48, 48, 57]
theorem Tryz.infoSpan : (Tryz.prog.info? 137).map (fun i => (i.zero, i.size, i.bytes)) = some (some (.agg #[.int .i64 0, .int .i64 0, .int .i64 0]), 3, 24) := by kernel_rfl

set_option maxRecDepth 100000 in
set_option maxHeartbeats 1000000 in
theorem checkRanges_one (w : World) (b : Nat) (hb : b < w.heap.size) (f t : List UInt8) (c0 : w.cell? ⟨b, 0, none⟩ = some (.string ⟨f.toArray⟩)) (c1 : w.cell? ⟨b, 1, none⟩ = some (.string ⟨t.toArray⟩)) (hf : f.length = 5) (ht : t.length = 5) (hnf : isNumB f = true) (hnt : isNumB t = true) (hlt : Op.bytesLess f t = true) : Calls Tryz.prog 97 #[.slice (some ⟨b, 0, none⟩) 1 1] w fun e w' => e = .returned (.int .i64 0) ∧ Below w.heap.size w w' := by
  have HNF := Lib.hid (fun w => isNumber_l f w (by omega))
  have HNT := Lib.hid (fun w => isNumber_l t w (by omega))
  rw [hnf] at HNF
  rw [hnt] at HNT
  clear hnf hnt
  suffices h : Calls Tryz.prog 122 #[.slice (some ⟨b, 0, none⟩) 1 1, .int .i64 1] w fun e w' => e = .returned (.int .i64 0) ∧ Below w.heap.size w w' by
    go_enter Tryz.func97, Tryz.ntmps97
    go_wp2_with (go_at_call 122; refine h.mono ?_; rintro e w' ⟨rfl, hB⟩)
    go_ret
    exact ⟨rfl, hB⟩
  go_enter Tryz.func122, Tryz.ntmps122
  go_wp2_with fail
  go_loopw [14] (fun it wr => ∃ k : Nat, k ≤ 1 ∧ it = .int .i64 k ∧ Hid (Below w.heap.size w wr)) (fun it _ => 1 - (intOf it).toNat)
  case atStart => exact ⟨0, Nat.zero_le _, rfl, Below.refl _ _⟩
  case round =>
    obtain ⟨k, hk, rfl, HB⟩ := hrel
    by_cases hk0 : k = 0
    · subst hk0
      have d0 := (HB.out.cell (p := ⟨b, 0, none⟩) hb).trans c0
      have d1 := (HB.out.cell (p := ⟨b, 1, none⟩) hb).trans c1
      clear c0 c1
      as_aux_lemma =>
        go_wp2_with fail
        refine (HNF.out _).mono ?_
        rintro e w2 ⟨rfl, hb2⟩
        obtain ⟨qc, qf⟩ := bcell hb2
        have hz2 : wr.heap.size < w2.heap.size := by have := hb2.size; simp at this; omega
        have e0 : w2.cell? ⟨wr.heap.size, 0, none⟩ = some (.string ⟨f.toArray⟩) := (qc _ 0 (by simp)).trans (by go_simp)
        have e1 : w2.cell? ⟨wr.heap.size, 1, none⟩ = some (.string ⟨t.toArray⟩) := (qc _ 1 (by simp)).trans (by go_simp)
        have HB2 : Hid (Below w.heap.size w w2) := ext_trans (ext_alloc HB.out) hb2
        clear qc qf hb2 d0 d1
        as_aux_lemma =>
          go_wp2_with fail
          refine (HNT.out _).mono ?_
          rintro e w3 ⟨rfl, hb3⟩
          obtain ⟨qc, qf⟩ := bcell hb3
          have f0 := (qc _ 0 hz2).trans e0
          have f1 := (qc _ 1 hz2).trans e1
          have HB3 := Lib.hid (ext_trans HB2.out hb3)
          clear qc qf hb3 e0 e1
          as_aux_lemma =>
            go_wp2_with fail
            go_roundw
            case rel => exact ⟨1, by omega, by go_num, HB3.out⟩
            case measure => simp [intOf]
    · obtain rfl : k = 1 := by omega
      clear c0 c1
      go_wp2_with fail
      go_ret
      exact ⟨rfl, HB.out⟩

set_option maxRecDepth 100000 in
set_option maxHeartbeats 1000000 in
theorem spans_one (w : World) (b : Nat) (hb : b < w.heap.size) (f t : List UInt8) (x y : Int) (c0 : w.cell? ⟨b, 0, none⟩ = some (.string ⟨f.toArray⟩)) (c1 : w.cell? ⟨b, 1, none⟩ = some (.string ⟨t.toArray⟩)) (hf : f.length = 5) (ht : t.length = 5) (ha : Lib.atoi (f.drop 1) = some x) (hb' : Lib.atoi (t.drop 1) = some y) : Calls Tryz.prog 98 #[.slice (some ⟨b, 0, none⟩) 1 1] w fun e w' => ∃ v, e = .returned v ∧ w'.ownsRow w.heap.size 137 3 v 1 [.int .i64 4, .int .i64 x, .int .i64 y] ∧ Below w.heap.size w w' := by
  have HS := Lib.hid (fun w => spanOf_any w f t x y (by omega) (by omega) (by omega) (by omega) ha hb')
  obtain ⟨i1, hi1, hy0, hy1, hy2⟩ := info_parts Tryz.infoSpan
  rw [hf] at HS
  clear ha hb' hf ht
  go_enter Tryz.func98, Tryz.ntmps98
  go_wp2_with fail
  go_loopw [3, 8] (fun v it wr => ∃ k : Nat, k ≤ 1 ∧ (k = 0 → v = .slice none 0 0) ∧ it = .int .i64 k ∧ Hid (wr.ownsRow w.heap.size 137 3 v k (([.int .i64 4, .int .i64 x, .int .i64 y] : List Value).take (3 * k))) ∧ Hid (Below w.heap.size w wr)) (fun _ it _ => 1 - (intOf it).toNat)
  case atStart => exact ⟨0, Nat.zero_le _, fun _ => rfl, rfl, World.ownsRow_nil _ _ _ _, Below.refl _ _⟩
  case round =>
    obtain ⟨k, hk, hnil, rfl, HO, HB⟩ := hrel
    by_cases hk0 : k = 0
    · subst hk0
      obtain rfl := hnil rfl
      have d0 := (HB.out.cell (p := ⟨b, 0, none⟩) hb).trans c0
      have d1 := (HB.out.cell (p := ⟨b, 1, none⟩) hb).trans c1
      clear c0 c1
      as_aux_lemma =>
        go_wp2_with fail
        refine (HS.out _).mono ?_
        rintro e w2 ⟨rfl, hb2⟩
        have HB2 : Hid (Below w.heap.size w w2) := ext_trans (ext_alloc HB.out) hb2
        clear hb2 d0 d1
        as_aux_lemma =>
          go_wp2_with (at_builtin; refine wpList_append_own_at _ rfl (.tmp 12) (.tmp 15) 134 rfl w.heap.size 137 i1 _ 3 24 Tryz.underlying134 hi1 hy0 hy1 hy2 rfl (by omega) _ 0 [] rfl (World.ownsRow_nil _ _ _ _) ⟨w2.heap.size, 0, none⟩ 1 1 [.int .i64 ((5 : Nat) - 1 : Int), .int .i64 x, .int .i64 y] rfl rfl (fun j u hj => by rw [show (⟨w2.heap.size, 0, none⟩ : Addr).add j = ⟨w2.heap.size, j, none⟩ by unfold Addr.add; split <;> simp_all]; match j, hj with | 0, hj => simp at hj; subst hj; go_simp | 1, hj => simp at hj; subst hj; go_simp | 2, hj => simp at hj; subst hj; go_simp) (by simp [Value.oneCell']) (by decide) (by omega) (by have := HB2.out.size; simp; omega) ?_; intro v9 w9 hown9 hgr9 _ _)
          have HO9 := Lib.hid hown9
          have HB9 : Hid (Below w.heap.size w w9) := ext_trans (ext_alloc HB2.out) (below_of_grown_none hgr9)
          clear hown9 hgr9
          as_aux_lemma =>
            go_wp2_with fail
            go_roundw
            case rel => exact ⟨1, by omega, fun h => absurd h (by decide), by go_num, HO9.out, HB9.out⟩
            case measure => simp [intOf]
    · obtain rfl : k = 1 := by omega
      clear c0 c1
      go_wp2_with fail
      go_ret
      exact ⟨_, rfl, HO.out, HB.out⟩

set_option maxRecDepth 100000 in
set_option maxHeartbeats 1000000 in
theorem count_one (w : World) (b : Nat) (hb : b < w.heap.size) (c0 : w.cell? ⟨b, 0, none⟩ = some (.string ⟨r0S.toArray⟩)) (c1 : w.cell? ⟨b, 1, none⟩ = some (.string ⟨r1S.toArray⟩)) : Calls Tryz.prog 59 #[.slice (some ⟨b, 0, none⟩) 1 1] w fun e w' => e = .returned (.tuple #[.int .i64 10, .int .i64 0]) ∧ Below w.heap.size w w' := by
  have HC := Lib.hid (checkRanges_one w b hb r0S r1S c0 c1 rfl rfl (by decide +kernel) (by decide +kernel) (by decide +kernel))
  have HSP : Hid (∀ W, Below w.heap.size w W → Calls Tryz.prog 98 #[.slice (some ⟨b, 0, none⟩) 1 1] W fun e w' => ∃ v, e = .returned v ∧ w'.ownsRow W.heap.size 137 3 v 1 [.int .i64 4, .int .i64 1000, .int .i64 1009] ∧ Below W.heap.size W w') := fun W hW => spans_one W b (Nat.lt_of_lt_of_le hb hW.size) r0S r1S 1000 1009 ((hW.cell (p := ⟨b, 0, none⟩) hb).trans c0) ((hW.cell (p := ⟨b, 1, none⟩) hb).trans c1) rfl rfl (by decide +kernel) (by decide +kernel)
  clear c0 c1
  go_enter Tryz.func59, Tryz.ntmps59
  go_wp2_with fail
  refine HC.out.mono ?_
  rintro e w1 ⟨rfl, hb1⟩
  have HB1 := Lib.hid hb1
  clear hb1
  go_wp2_with fail
  refine (HSP.out _ HB1.out).mono ?_
  rintro e w2 ⟨v, rfl, hown, hb2⟩
  have HB2 := Lib.hid (ext_trans HB1.out hb2)
  obtain ⟨-, h9⟩ | ⟨g, cp, cu, rfl, hg⟩ := hown.2
  · cases h9
  have hcs := hown.cells (g := g) rfl
  have hg2 := (hown.lt g rfl).2
  have aa : ∀ j, (⟨g, 0, none⟩ : Addr).add j = ⟨g, j, none⟩ := fun j => by unfold Addr.add; split <;> simp_all
  have s0 : w2.cell? ⟨g, 0, none⟩ = some (.int .i64 4) := by rw [← aa 0]; exact hcs 0 _ rfl
  have s1 : w2.cell? ⟨g, 1, none⟩ = some (.int .i64 1000) := by rw [← aa 1]; exact hcs 1 _ rfl
  have s2 : w2.cell? ⟨g, 2, none⟩ = some (.int .i64 1009) := by rw [← aa 2]; exact hcs 2 _ rfl
  clear hown hg hcs aa hb2
  as_aux_lemma =>
    go_wp2_with fail
    go_loopw [5, 16] (fun acc it wr => ∃ k : Nat, k ≤ 1 ∧ acc = .int .i64 (10 * (k : Int)) ∧ it = .int .i64 k ∧ Hid (Below w2.heap.size w2 wr)) (fun _ it _ => 1 - (intOf it).toNat)
    case atStart => exact ⟨0, Nat.zero_le _, rfl, rfl, Below.refl _ _⟩
    case round =>
      obtain ⟨k, hk, rfl, rfl, HB⟩ := hrel
      by_cases hk0 : k = 0
      · subst hk0
        have d0 := (HB.out.cell (p := ⟨g, 0, none⟩) hg2).trans s0
        have d1 := (HB.out.cell (p := ⟨g, 1, none⟩) hg2).trans s1
        have d2 := (HB.out.cell (p := ⟨g, 2, none⟩) hg2).trans s2
        clear s0 s1 s2
        go_wp2_with fail
        go_roundw
        case rel => exact ⟨1, by omega, by go_num, by go_num, ext_alloc HB.out⟩
        case measure => simp [intOf]
      · obtain rfl : k = 1 := by omega
        clear s0 s1 s2
        go_wp2_with fail
        go_ret2
        exact ⟨rfl, ext_trans HB2.out HB.out⟩

set_option maxRecDepth 100000 in
theorem numbered_any (w : World) : Calls Tryz.prog 16 #[] w fun e w' => e = .returned (.bool true) ∧ Below w.heap.size w w' := by
  have HC : Hid (Calls Tryz.prog 59 #[.slice (some ⟨w.heap.size, 0, none⟩) 1 1] (w.alloc (.cells #[.string ⟨#[43, 49, 48, 48, 48]⟩, .string ⟨#[43, 49, 48, 48, 57]⟩] 92)) fun e w' => e = .returned (.tuple #[.int .i64 10, .int .i64 0]) ∧ Below (w.alloc (.cells #[.string ⟨#[43, 49, 48, 48, 48]⟩, .string ⟨#[43, 49, 48, 48, 57]⟩] 92)).heap.size (w.alloc (.cells #[.string ⟨#[43, 49, 48, 48, 48]⟩, .string ⟨#[43, 49, 48, 48, 57]⟩] 92)) w') := count_one _ w.heap.size (by simp) (by go_simp; rfl) (by go_simp; rfl)
  go_enter Tryz.func16, Tryz.ntmps16
  go_wp2_with fail
  refine HC.out.mono ?_
  rintro e w1 ⟨rfl, hb1⟩
  have HB1 : Hid (Below w.heap.size w w1) := ext_trans (ext_alloc (Below.refl _ _)) hb1
  go_wp2_with fail
  go_ret
  exact ⟨rfl, HB1.out⟩
end Go.Proofs.YthajppcmmmkfcaaGreatDoor

set_option linter.unusedVariables false
set_option linter.unusedSimpArgs false
namespace Go.Proofs.YthajppcmmmkfcaaGreatDoor
open Go.RowKit

theorem home_found {l : List Ctry} {code area : List UInt8} (hE : planErr l = 0) (hH : homeErr l code area = 0) : ∃ c, homeC l code area = some c ∧ (l.find? fun c => c.code == code) = some c := by
  unfold homeErr at hH
  cases hq : homeR l code area with
  | none => rw [hq] at hH; cases hH
  | some c =>
    refine ⟨c, by rw [home_same _ _ hE, hq], ?_⟩
    unfold homeR at hq
    cases hf : l.find? fun c => c.code == code with
    | none => rw [hf] at hq; cases hq
    | some d =>
      rw [hf] at hq
      simp only [Option.bind_some] at hq
      split at hq
      · exact hq
      · cases hq
theorem home_not {l : List Ctry} {code area : List UInt8} (hE : planErr l = 0) (hH : homeErr l code area ≠ 0) : homeC l code area = none ∧ homeErr l code area = 8 := by
  unfold homeErr at hH ⊢
  rw [home_same _ _ hE]
  cases hq : homeR l code area with
  | none => exact ⟨rfl, rfl⟩
  | some c => rw [hq] at hH; exact absurd rfl hH

set_option maxRecDepth 100000 in
set_option maxHeartbeats 4000000 in
theorem forms_true (w : World) (a : Option Addr) (len cap : Nat) (zs : List Int) (hr : ArgRow w a len cap zs) :
    Calls Tryz.prog 5 #[.slice a len cap] w fun e w' => e = .returned (.bool true) ∧ Below w.heap.size w w' := by
  have HS0 := Lib.hid (stream_start hr)
  clear hr
  go_enter Tryz.func5, Tryz.ntmps5
  go_wp2_with fail
  refine (countries_any w.heap.size 0 _ HS0.out (by omega)).mono ?_
  rintro e w1 ⟨P, l, rfl, hrow, hna, hst1, hk1⟩
  have HR := Lib.hid hrow
  have HNA := Lib.hid hna
  have HS1 := Lib.hid hst1
  have HK1 := Lib.hid hk1
  clear hrow hna hst1 hk1 HS0
  as_aux_lemma =>
    go_wp2_with fail
    refine (home_drawn w.heap.size 20 _ HS1.out (by omega)).mono ?_
    rintro e w2 ⟨code, area, rfl, hco, har, hst2, hk2⟩
    have HK2 := Lib.hid (HK1.out.trans hk2)
    have HR2 : Hid (∀ w9, Keeps w.heap.size w2 w9 → CtryRow w9 (some ⟨P, 0, none⟩) 3 l) := fun w9 h9 => HR.out w9 (hk2.trans h9)
    have HS2 := Lib.hid hst2
    clear hst2 hk2 HR HS1 HK1
    as_aux_lemma =>
      go_upto_region 3 with (fail)
      have HKB : Hid (Keeps w.heap.size w2 (w2.alloc (.cells #[.string ⟨code.toArray⟩, .string ⟨area.toArray⟩] 29))) := (Keeps.refl _ w2).alloc _
      have HSB : Hid (StreamOk (w2.alloc (.cells #[.string ⟨code.toArray⟩, .string ⟨area.toArray⟩] 29)) w.heap.size 23) := HS2.out.below (ext_alloc (Below.refl _ _))
      have hwl := HS2.out.lt
      have HC0 : Hid (∀ w9, Keeps w.heap.size (w2.alloc (.cells #[.string ⟨code.toArray⟩, .string ⟨area.toArray⟩] 29)) w9 → w9.cell? ⟨w2.heap.size, 0, none⟩ = some (.string ⟨code.toArray⟩) ∧ w9.cell? ⟨w2.heap.size, 1, none⟩ = some (.string ⟨area.toArray⟩) ∧ w2.heap.size < w9.heap.size) := fun w9 h9 => ⟨(h9.cell (p := ⟨w2.heap.size, 0, none⟩) (by simp) (by show w2.heap.size ≠ w.heap.size; omega)).trans (by go_simp), (h9.cell (p := ⟨w2.heap.size, 1, none⟩) (by simp) (by show w2.heap.size ≠ w.heap.size; omega)).trans (by go_simp), by have := h9.size; simp at this; omega⟩
      generalize World.alloc w2 _ = W0 at HKB HSB HC0 ⊢
      generalize w2.heap.size = D at HC0 ⊢
      have hS0 : (fun W => W.cell? ⟨D, 0, none⟩ = some (.string ⟨code.toArray⟩) ∧ W.cell? ⟨D, 1, none⟩ = some (.string ⟨area.toArray⟩) ∧ D < W.heap.size) W0.drew := HC0.out _ (Keeps.of_below (ext_drew (Below.refl _ _)))
      have HKD : Hid (Keeps w.heap.size W0 W0.drew) := Keeps.of_below (ext_drew (Below.refl _ _))
      refine region_seqI (S := fun W => W.cell? ⟨D, 0, none⟩ = some (.string ⟨code.toArray⟩) ∧ W.cell? ⟨D, 1, none⟩ = some (.string ⟨area.toArray⟩) ∧ D < W.heap.size) [(true, 0), (true, 1), (true, 3), (true, 4), (true, 5), (false, 2), (false, 6), (true, 7), (true, 8)] (by kernel_rfl) (by kernel_rfl) rfl (by kernel_rfl) hS0 ?_
      clear hS0
      simp only [seqOps, List.getD_cons_zero, List.getD_cons_succ]
      refine seqI_take (v := .pointer (some ⟨w.heap.size, 0, none⟩)) rfl (fun W hW => by obtain ⟨m0, m1, m2⟩ := hW; go_simp) (fun _ _ _ h => h) ?_
      simp only [Act.put, List.setIfInBounds_toArray, List.set_cons_zero, List.set_cons_succ]
      refine seqI_take (v := .slice (some ⟨P, 0, none⟩) 3 3) rfl (fun W hW => by obtain ⟨m0, m1, m2⟩ := hW; go_simp) (fun _ _ _ h => h) ?_
      simp only [Act.put, List.setIfInBounds_toArray, List.set_cons_zero, List.set_cons_succ]
      refine seqI_take (v := .pointer (some ⟨w.heap.size, 0, none⟩)) rfl (fun W hW => by obtain ⟨m0, m1, m2⟩ := hW; go_simp) (fun _ _ _ h => h) ?_
      simp only [Act.put, List.setIfInBounds_toArray, List.set_cons_zero, List.set_cons_succ]
      refine seqI_take (v := .slice (some ⟨P, 0, none⟩) 3 3) rfl (fun W hW => by obtain ⟨m0, m1, m2⟩ := hW; go_simp) (fun _ _ _ h => h) ?_
      simp only [Act.put, List.setIfInBounds_toArray, List.set_cons_zero, List.set_cons_succ]
      refine seqI_take (v := .agg #[.string ⟨code.toArray⟩, .string ⟨area.toArray⟩]) rfl (fun W hW => by obtain ⟨m0, m1, m2⟩ := hW; go_simp) (fun _ _ _ h => h) ?_
      simp only [Act.put, List.setIfInBounds_toArray, List.set_cons_zero, List.set_cons_succ]
      refine seqI_call 18 #[.pointer (some ⟨w.heap.size, 0, none⟩), .slice (some ⟨P, 0, none⟩) 3 3] rfl (by go_simp) (number_any w.heap.size 23 _ (some ⟨P, 0, none⟩) 3 3 l (HSB.out.below (ext_drew (Below.refl _ _))) (by omega) (fun w9 h9 => HR2.out w9 (HKB.out.trans (HKD.out.trans h9))) (by omega) (by omega) HNA.out) ?_
      rintro e w3 ⟨s, rfl, hs, hst3, hk3⟩
      have HK3 := Lib.hid (HKD.out.trans hk3)
      have HS3 := Lib.hid hst3
      refine ⟨_, rfl, HC0.out _ HK3.out, ?_⟩
      clear hst3 hk3
      simp only [Act.put, List.setIfInBounds_toArray, List.set_cons_zero, List.set_cons_succ]
      refine seqI_call 26 #[.pointer (some ⟨w.heap.size, 0, none⟩), .slice (some ⟨P, 0, none⟩) 3 3, .agg #[.string ⟨code.toArray⟩, .string ⟨area.toArray⟩]] rfl (by go_simp) (formString_any w.heap.size (23 + 4000) _ (some ⟨P, 0, none⟩) 3 3 l code area HS3.out (by omega) (fun w9 h9 => HR2.out w9 (HKB.out.trans (HK3.out.trans h9))) (by omega) (by omega) HNA.out hco har) ?_
      rintro e w4 ⟨t, rfl, ht, hst4, hk4⟩
      have HK4 := Lib.hid (HK3.out.trans hk4)
      refine ⟨_, rfl, HC0.out _ HK4.out, ?_⟩
      clear hst4 hk4 HS3 HK3
      simp only [Act.put, List.setIfInBounds_toArray, List.set_cons_zero, List.set_cons_succ]
      refine seqI_take (v := .string ⟨s.toArray⟩) rfl (fun W hW => by obtain ⟨m0, m1, m2⟩ := hW; go_simp) (fun _ _ _ h => h) ?_
      simp only [Act.put, List.setIfInBounds_toArray, List.set_cons_zero, List.set_cons_succ]
      refine seqI_take (v := .string ⟨t.toArray⟩) rfl (fun W hW => by obtain ⟨m0, m1, m2⟩ := hW; go_simp) (fun _ _ _ h => h) ?_
      simp only [Act.put, List.setIfInBounds_toArray, List.set_cons_zero, List.set_cons_succ]
      refine seqI_nil ?_
      have HRW : Hid (∀ w9, Below w4.heap.size w4 w9 → CtryRow w9 (some ⟨P, 0, none⟩) 3 l) := fun w9 h9 => HR2.out w9 (HKB.out.trans (HK4.out.trans (Keeps.of_below h9)))
      have HCW : Hid (∀ w9, Below w4.heap.size w4 w9 → w9.cell? ⟨D, 0, none⟩ = some (.string ⟨code.toArray⟩) ∧ w9.cell? ⟨D, 1, none⟩ = some (.string ⟨area.toArray⟩) ∧ D < w9.heap.size) := fun w9 h9 => HC0.out w9 (HK4.out.trans (Keeps.of_below h9))
      have HEND : Hid (∀ w9, Below w4.heap.size w4 w9 → Below w.heap.size w w9) := fun w9 h9 => law_end (HK2.out.trans (HKB.out.trans (HK4.out.trans (Keeps.of_below h9))))
      have hs' : s.length ≤ 1000 := by omega
      clear HC0 HKD HKB HSB HR2 HS2 HK2 HK4
      generalize hKR : keysR t = K
      have HKE := Lib.hid (fun W => keys_any t (by omega) W)
      have HKO := Lib.hid (fun W => keysOf_any t (by omega) W)
      rw [hKR] at HKE HKO
      obtain ⟨k0, k1⟩ := K
      clear hKR
      as_aux_lemma =>
        go_wp2_with fail
        refine (HKE.out _).mono ?_
        rintro e w5 ⟨rfl, hb5⟩
        have HB5 := Lib.hid hb5
        clear hb5
        as_aux_lemma =>
          go_wp2_with fail
          refine (HKO.out _).mono ?_
          rintro e w6 ⟨rfl, hb6⟩
          have HB6 := Lib.hid (ext_trans HB5.out hb6)
          obtain ⟨c0, c1, hz⟩ := HCW.out w6 HB6.out
          have HF0 : Hid (formTop l code area s = if planErr l ≠ 0 then (planErr l, ([] : List UInt8)) else match homeC l code area with | none => (8, []) | some c => if (splitP l s).err ≠ 0 then ((splitP l s).err, []) else (0, formP c (splitP l s))) := rfl
          have HG0 : Hid (readTop l code area t = if planErr l ≠ 0 then (planErr l, ([] : List UInt8)) else match homeC l code area with | none => (8, []) | some c => readP l c area t) := rfl
          have HFO := Lib.hid (fun W hW => form_any W (some ⟨P, 0, none⟩) 3 3 l hW (by omega) (by omega) HNA.out code area s hs')
          have HRE := Lib.hid (fun W hW => readForm_any W (some ⟨P, 0, none⟩) 3 3 l hW (by omega) (by omega) HNA.out code area t har ht)
          generalize formTop l code area s = F at HF0 HFO
          generalize readTop l code area t = G at HG0 HRE
          obtain ⟨f0, f1⟩ := F
          obtain ⟨g0, g1⟩ := G
          clear hb6 HB5 HKE HKO
          as_aux_lemma =>
            go_wp2_with fail
            refine (HFO.out _ (HRW.out _ HB6.out)).mono ?_
            rintro e w7 ⟨rfl, hb7⟩
            have HB7 := Lib.hid (ext_trans HB6.out hb7)
            clear c0 c1 hz
            obtain ⟨c0, c1, hz⟩ := HCW.out w7 HB7.out
            clear hb7 HB6
            as_aux_lemma =>
              go_wp2_with fail
              refine (HRE.out _ (HRW.out _ HB7.out)).mono ?_
              rintro e w8 ⟨rfl, hb8⟩
              have HB8 := Lib.hid (ext_trans HB7.out hb8)
              clear hb8 HB7 HFO HRE c0 c1 hz
              as_aux_lemma =>
                go_wp2_with fail
                refine (planFault_any _ (some ⟨P, 0, none⟩) 3 3 l (HRW.out _ HB8.out) (by omega)).mono ?_
                rintro e w9 ⟨rfl, hb9⟩
                have HB9 := Lib.hid (ext_trans HB8.out hb9)
                obtain ⟨c0, c1, hz⟩ := HCW.out w9 HB9.out
                clear hb9 HB8
                by_cases hE : planErr l = 0
                · have HEE := Lib.hid hE
                  rw [hE]
                  clear hE
                  as_aux_lemma =>
                    go_wp2_with fail
                    refine (homeFault_any _ (some ⟨P, 0, none⟩) 3 3 l (HRW.out _ HB9.out) (by omega) (by omega) HNA.out code area).mono ?_
                    rintro e w10 ⟨rfl, hb10⟩
                    have HB10 := Lib.hid (ext_trans HB9.out hb10)
                    clear c0 c1 hz
                    obtain ⟨c0, c1, hz⟩ := HCW.out w10 HB10.out
                    clear hb10 HB9
                    by_cases hH : homeErr l code area = 0
                    · obtain ⟨c, hc, hfc⟩ := home_found HEE.out hH
                      have HFC := Lib.hid hfc
                      have HF1 : Hid ((f0, f1) = if (splitP l s).err ≠ 0 then ((splitP l s).err, []) else (0, formP c (splitP l s))) := by show _ = _; rw [HF0.out, if_neg (by simp [HEE.out]), hc]
                      have HG1 : Hid (readP l c area t = (g0, g1)) := by show _ = _; rw [HG0.out, if_neg (by simp [HEE.out]), hc]
                      rw [hH]
                      have HFR := Lib.hid (fun W hW => formRead_any W (some ⟨P, 0, none⟩) 3 3 l hW (by omega) (by omega) HEE.out c code area t hfc har ht)
                      rw [HG1.out] at HFR
                      have HSP := Lib.hid (fun W hW => splitOf_any W (some ⟨P, 0, none⟩) 3 3 l hW (by omega) s hs')
                      have HFF := Lib.hid (fun W hW => formFrom_any W (some ⟨P, 0, none⟩) 3 3 l hW (by omega) (by omega) HEE.out c code area s hfc hs')
                      rw [split_same s HEE.out] at HSP
                      generalize splitP l s = X at HSP HF1 HFF
                      obtain ⟨er, x1, x2, x3⟩ := X
                      simp only at HSP HF1 HFF
                      generalize formP c _ = y at HF1 HFF
                      clear hH hc hfc HF0 HG0 HG1
                      as_aux_lemma =>
                        go_wp2_with fail
                        refine (HFR.out _ (HRW.out _ HB10.out)).mono ?_
                        rintro e w11 ⟨rfl, hb11⟩
                        have HB11 := Lib.hid (ext_trans HB10.out hb11)
                        clear c0 c1 hz
                        clear hb11 HB10 HFR
                        as_aux_lemma =>
                          go_wp2_with fail
                          refine (HSP.out _ (HRW.out _ HB11.out)).mono ?_
                          rintro e w12 ⟨rfl, hb12⟩
                          have HB12 := Lib.hid (ext_trans HB11.out hb12)
                          obtain ⟨c0, c1, hz⟩ := HCW.out w12 HB12.out
                          clear hb12 HB11 HSP
                          simp only
                          by_cases her : er = 0
                          · subst her
                            obtain ⟨rfl, rfl⟩ : f0 = 0 ∧ f1 = y := by have := HF1.out; simp at this; exact this
                            have hDne : w12.heap.size ≠ D := by omega
                            as_aux_lemma =>
                              go_wp2_with fail
                              refine (HFF.out _ (HRW.out _ (by (try show Below _ _ _); repeat (with_reducible first | exact Below.refl _ _ | assumption | exact Hid.out (by assumption) | refine ext_alloc ?_ | refine ext_drewN ?_ | refine ext_drew ?_ | refine ext_setCell ?_ (Nat.le_refl _) | refine ext_setCell ?_ (Nat.le_succ _) | refine ext_trans ?_ (by assumption) | (refine ext_setCell ?_ (by simp)) | (refine ext_setCell ?_ (by simp at *; omega)))))).mono ?_
                              rintro e w13 ⟨rfl, hb13⟩
                              have HB13 := Lib.hid (ext_trans (ext_alloc HB12.out) hb13)
                              clear hb13
                              as_aux_lemma =>
                                go_wp2_with fail
                                refine (numbered_any _).mono ?_
                                rintro e w14 ⟨rfl, hb14⟩
                                have HF := Lib.hid (HEND.out _ (ext_trans HB13.out hb14))
                                clear hb14
                                go_wp2_with fail
                                go_ret
                                exact ⟨rfl, HF.out⟩
                          · obtain ⟨rfl, rfl⟩ : f0 = er ∧ f1 = [] := by have := HF1.out; simp [her] at this; exact this
                            clear HF1
                            as_aux_lemma =>
                              go_wp2_with fail
                              refine (numbered_any _).mono ?_
                              rintro e w14 ⟨rfl, hb14⟩
                              have HF := Lib.hid (HEND.out _ (ext_trans (ext_alloc HB12.out) hb14))
                              clear hb14
                              go_wp2_with fail
                              go_ret
                              exact ⟨rfl, HF.out⟩
                    · obtain ⟨hc, h8⟩ := home_not HEE.out hH
                      obtain ⟨rfl, rfl⟩ : f0 = 8 ∧ f1 = [] := by have := HF0.out; simp [HEE.out, hc] at this; exact this
                      obtain ⟨rfl, rfl⟩ : g0 = 8 ∧ g1 = [] := by have := HG0.out; simp [HEE.out, hc] at this; exact this
                      rw [h8]
                      clear hc h8 hH HF0 HG0
                      have hcat : ((⟨#[]⟩ : ByteArray) ++ (⟨#[]⟩ : ByteArray)).toList = [] := by decide +kernel
                      as_aux_lemma =>
                        go_wp2_with fail
                        refine (numbered_any _).mono ?_
                        rintro e w14 ⟨rfl, hb14⟩
                        have HF := Lib.hid (HEND.out _ (ext_trans HB10.out hb14))
                        clear hb14
                        go_wp2_with fail
                        go_ret
                        exact ⟨rfl, HF.out⟩
                · have HF2 := HF0.out
                  have HG2 := HG0.out
                  rw [if_pos hE] at HF2 HG2
                  generalize planErr l = E at *
                  obtain ⟨rfl, rfl⟩ : f0 = E ∧ f1 = [] := by simpa using HF2
                  obtain ⟨rfl, rfl⟩ : g0 = f0 ∧ g1 = [] := by simpa using HG2
                  clear HF0 HG0 HF2 HG2
                  have hcat : ((⟨#[]⟩ : ByteArray) ++ (⟨#[]⟩ : ByteArray)).toList = [] := by decide +kernel
                  as_aux_lemma =>
                    go_wp2_with fail
                    refine (numbered_any _).mono ?_
                    rintro e w14 ⟨rfl, hb14⟩
                    have HF := Lib.hid (HEND.out _ (ext_trans HB9.out hb14))
                    clear hb14
                    go_wp2_with fail
                    go_ret
                    exact ⟨rfl, HF.out⟩
end Go.Proofs.YthajppcmmmkfcaaGreatDoor

set_option linter.unusedVariables false
set_option linter.unusedSimpArgs false
namespace Go.Proofs.YthajppcmmmkfcaaGreatDoor
open Go.RowKit

theorem bs_dig14 (e : Operand → Value) (he : ∀ v, e (.const v) = v) (o : Oper) (w : World) (i11 : Nat) (i12 : Nat) (p0 : ByteArray) (p1 : ByteArray) (p2 : ByteArray) (p3 : ByteArray) (p4 : ByteArray) (p5 : ByteArray) (p6 : ByteArray) (p7 : ByteArray) (p8 : ByteArray) (p9 : ByteArray) (p10 : ByteArray) (p11 : ByteArray) (p12 : ByteArray) (p13 : ByteArray) (ho : o.op = .buildSlice 46 14 #[(0, .const (.string p0)), (1, .const (.string p1)), (2, .const (.string p2)), (3, .const (.string p3)), (4, .const (.string p4)), (5, .const (.string p5)), (6, .const (.string p6)), (7, .const (.string p7)), (8, .const (.string p8)), (9, .const (.string p9)), (10, .const (.string p10)), (11, .tmp i11), (12, .tmp i12), (13, .const (.string p13))]) (h11 : e (.tmp i11) = .string p11) (h12 : e (.tmp i12) = .string p12) :
   (execOp e o).run Tryz.prog w = .ok (.value (.slice (some ⟨w.heap.size, 0, none⟩) 14 14)) (w.alloc (.cells #[.string p0, .string p1, .string p2, .string p3, .string p4, .string p5, .string p6, .string p7, .string p8, .string p9, .string p10, .string p11, .string p12, .string p13] 9)) := by
  unfold execOp
  rw [ho]
  simp only [List.map_toArray, List.map_cons, List.map_nil, he, h11, h12]
  kernel_rfl
set_option maxRecDepth 100000 in
set_option maxHeartbeats 4000000 in
theorem digits_any (S k : Nat) (w : World) (a : Option Addr) (n cap : Nat) (l : List Ctry) (code area : List UInt8) (h : StreamOk w S k) (hk : k ≤ 1000000) (hrow : ∀ w9, Keeps S w w9 → CtryRow w9 a n l) (hcap : n ≤ cap) (h1 : 1 ≤ n) (hna : ∀ i, i < l.length → 1 ≤ (l.getD i noCtry).an) (hco : code.length ≤ 100) (har : area.length ≤ 100) :
    Calls Tryz.prog 9 #[.pointer (some ⟨S, 0, none⟩), .slice a n cap, .agg #[.string ⟨code.toArray⟩, .string ⟨area.toArray⟩]] w (SomePost S (k + 5000) (fun s => s.length ≤ 1000) w) := by
  have HS := Lib.hid h
  have HR := Lib.hid hrow
  have HNA := Lib.hid hna
  have hlt := h.lt
  clear h hrow hna
  have HTWO : ∀ (w1 : World) (K : Act → World → Prop), True := fun _ _ => trivial
  clear HTWO
  go_enter Tryz.func9, Tryz.ntmps9
  go_upto_region 1 with (fail)
  have HKB : Hid (Keeps S w (w.alloc (.cells #[.string ⟨code.toArray⟩, .string ⟨area.toArray⟩] 29))) := (Keeps.refl S w).alloc _
  have HSB : Hid (StreamOk (w.alloc (.cells #[.string ⟨code.toArray⟩, .string ⟨area.toArray⟩] 29)) S k) := HS.out.below (ext_alloc (Below.refl _ _))
  have HC0 : Hid (∀ w9, Keeps S (w.alloc (.cells #[.string ⟨code.toArray⟩, .string ⟨area.toArray⟩] 29)) w9 → w9.cell? ⟨w.heap.size, 0, none⟩ = some (.string ⟨code.toArray⟩) ∧ w9.cell? ⟨w.heap.size, 1, none⟩ = some (.string ⟨area.toArray⟩) ∧ w.heap.size < w9.heap.size) := fun w9 h9 => ⟨(h9.cell (p := ⟨w.heap.size, 0, none⟩) (by simp) (by show w.heap.size ≠ S; omega)).trans (by go_simp), (h9.cell (p := ⟨w.heap.size, 1, none⟩) (by simp) (by show w.heap.size ≠ S; omega)).trans (by go_simp), by have := h9.size; simp at this; omega⟩
  generalize World.alloc w _ = W0 at HKB HSB HC0 ⊢
  obtain ⟨c0, c1, hz0⟩ := HC0.out W0 (Keeps.refl _ _)
  go_cut [22] (fun v wx => ∃ b : Bool, v = .bool b ∧ Hid (b = true → planErr l = 0 ∧ homeErr l code area = 0) ∧ Hid (StreamOk wx S (k + 1)) ∧ Hid (Keeps S W0 wx))
  case first =>
    go_wp2_with fail
    refine (planFault_any _ a n cap l (HR.out _ HKB.out) hcap).mono ?_
    rintro e w2 ⟨rfl, hb2⟩
    have HK2 : Hid (Keeps S W0 w2) := Keeps.of_below hb2
    have HS2 := Lib.hid (HSB.out.below hb2)
    clear hb2 c0 c1 hz0
    have HEQ : Hid (∀ E, planErr l = E → planErr l = E) := fun E h => h
    generalize hE : planErr l = E
    have HEE := Lib.hid (HEQ.out E hE)
    clear hE HEQ
    by_cases he : E = 0
    · subst he
      obtain ⟨c0, c1, hz0⟩ := HC0.out w2 HK2.out
      as_aux_lemma =>
        go_wp2_with fail
        refine (homeFault_any _ a n cap l (HR.out _ (HKB.out.trans HK2.out)) hcap h1 HNA.out code area).mono ?_
        rintro e w3 ⟨rfl, hb3⟩
        have HK3 := Lib.hid (HK2.out.trans (Keeps.of_below hb3))
        have HS3 := Lib.hid (HS2.out.below hb3)
        clear hb3
        have HEQ : Hid (∀ E, homeErr l code area = E → homeErr l code area = E) := fun E h => h
        generalize hE : homeErr l code area = E
        have HHE := Lib.hid (HEQ.out E hE)
        clear hE HEQ
        by_cases he : E = 0
        · subst he
          as_aux_lemma =>
            go_wp2_with fail
            refine (flip_any S k 4 _ HS3.out (by omega) (by decide) (by decide)).mono ?_
            rintro e w4 ⟨fl, rfl, hst4, hk4⟩
            have HK4 := Lib.hid (HK3.out.trans hk4)
            have HS4 := Lib.hid hst4
            clear hst4 hk4
            go_wp2_with fail
            go_meet
            exact ⟨!fl, rfl, fun _ => ⟨HEE.out, HHE.out⟩, HS4, HK4⟩
        · have hne : (E == 0) = false := by simpa using he
          as_aux_lemma =>
            go_wp2_with fail
            go_meet
            exact ⟨false, rfl, (fun h => by cases h), HS3.out.mono (by omega), HK3⟩
    · have hne : (E == 0) = false := by simpa using he
      as_aux_lemma =>
        go_wp2_with fail
        go_meet
        exact ⟨false, rfl, (fun h => by cases h), HS2.out.mono (by omega), HK2⟩
  case rest =>
    obtain ⟨b, rfl, HB, HS1, HK1⟩ := hcut
    clear c0 c1 hz0
    cases b
    · skip
      as_aux_lemma =>
        go_wp2_with (first | (refine wpList_val rfl (bs_dig14 _ (fun _ => rfl) _ _ _ _ _ _ _ _ _ _ _ _ _ _ _ _ _ _ rfl rfl rfl) ?_))
        refine (Tryz.strings_Repeat ⟨#[49]⟩ 30 _ (by decide) (by decide)).mono ?_
        rintro e w2 ⟨rfl, hb2⟩
        have hra : (Lib.repeatL (⟨#[49]⟩ : ByteArray).data.toList 30).length ≤ 100 := by rw [Lib.repeatL_length]; decide
        generalize Lib.repeatL (⟨#[49]⟩ : ByteArray).data.toList 30 = ra at hra
        have HK2 := Lib.hid (HK1.out.trans (Keeps.of_below hb2))
        have HS2 := Lib.hid (HS1.out.below hb2)
        clear hb2 HB
        as_aux_lemma =>
          go_wp2_with (first | (refine wpList_val rfl (bs_dig14 _ (fun _ => rfl) _ _ _ _ _ _ _ _ _ _ _ _ _ _ _ _ _ _ rfl rfl rfl) ?_))
          refine (Tryz.strings_Repeat ⟨#[49]⟩ 31 _ (by decide) (by decide)).mono ?_
          rintro e w3 ⟨rfl, hb3⟩
          have hrb : (Lib.repeatL (⟨#[49]⟩ : ByteArray).data.toList 31).length ≤ 100 := by rw [Lib.repeatL_length]; decide
          generalize Lib.repeatL (⟨#[49]⟩ : ByteArray).data.toList 31 = rb at hrb
          have HK3 := Lib.hid (HK2.out.trans (Keeps.of_below hb3))
          have HS3 := Lib.hid (HS2.out.below hb3)
          clear hb3 HK2 HS2
          as_aux_lemma =>
            go_wp2_with (first | (refine wpList_val rfl (bs_dig14 _ (fun _ => rfl) _ _ _ _ _ _ _ _ _ _ _ _ _ _ _ _ _ _ rfl rfl rfl) ?_))
            refine (some_any S (k + 1) w3.heap.size 14 14 [[], [48], [48, 48], [49], [48, 51, 48], [42, 49], [49, 50], [48, 51, 48, 49], [48, 48, 52, 57, 51, 48, 49, 50], [48, 49, 49], [49, 50, 48, 57], ra, rb, [48, 97]] (fun x => x.length ≤ 100) _ (HS3.out.below (ext_alloc (Below.refl _ _))) (by omega) (by simp) (by have := HS3.out.lt; omega) (by omega) (by omega) (fun i hi => by rw [new_cell]; match i, hi with | 0, _ | 1, _ | 2, _ | 3, _ | 4, _ | 5, _ | 6, _ | 7, _ | 8, _ | 9, _ | 10, _ | 11, _ | 12, _ | 13, _ => rfl) (fun i hi => by match i, hi with | 0, _ | 1, _ | 2, _ | 3, _ | 4, _ | 5, _ | 6, _ | 7, _ | 8, _ | 9, _ | 10, _ | 13, _ => simp | 11, _ => exact hra | 12, _ => exact hrb)).mono ?_
            rintro e w5 ⟨x, rfl, hx, hst5, hkp5⟩
            have HK5 := Lib.hid ((HK3.out.alloc _).trans hkp5)
            have HS5 := Lib.hid hst5
            have HX := Lib.hid hx
            clear hst5 hkp5 hx
            go_wp2_with fail
            go_ret
            exact ⟨x, rfl, Nat.le_trans HX.out (by decide), HS5.out.mono (by omega), HKB.out.trans HK5.out⟩
    · skip
      obtain ⟨hE, hH⟩ := HB.out rfl
      obtain ⟨c, hhc, hfc⟩ := home_found hE hH
      have HIN := Lib.hid (homeIn_of hhc)
      have HFC := Lib.hid hfc
      have HEE := Lib.hid hE
      have hz := HC0.out
      have hS0 : (fun W => W.cell? ⟨w.heap.size, 0, none⟩ = some (.string ⟨code.toArray⟩) ∧ W.cell? ⟨w.heap.size, 1, none⟩ = some (.string ⟨area.toArray⟩) ∧ w.heap.size < W.heap.size) wc.drew := HC0.out _ (HK1.out.trans (Keeps.of_below (ext_drew (Below.refl _ _))))
      have HS0 := Lib.hid hS0
      have HKD : Hid (Keeps S W0 wc.drew) := HK1.out.trans (Keeps.of_below (ext_drew (Below.refl _ _)))
      have HSD : Hid (StreamOk wc.drew S (k + 1)) := HS1.out.below (ext_drew (Below.refl _ _))
      clear hE hH hfc hhc hz hS0 HB HS1 HK1
      skip
      as_aux_lemma =>
        go_upto_region 2 with (fail)
        refine region_seqI (S := fun W => W.cell? ⟨w.heap.size, 0, none⟩ = some (.string ⟨code.toArray⟩) ∧ W.cell? ⟨w.heap.size, 1, none⟩ = some (.string ⟨area.toArray⟩) ∧ w.heap.size < W.heap.size) [(true, 0), (true, 1), (true, 2), (true, 3), (false, 4), (false, 5), (true, 6)] (by kernel_rfl) (by kernel_rfl) rfl (by kernel_rfl) HS0.out ?_
        simp only [seqOps, List.getD_cons_zero, List.getD_cons_succ]
        refine seqI_take (v := .slice a n cap) rfl (fun W hW => by obtain ⟨m0, m1, m2⟩ := hW; go_simp) (fun _ _ _ h => h) ?_
        simp only [Act.put, List.setIfInBounds_toArray, List.set_cons_zero, List.set_cons_succ]
        refine seqI_take (v := .agg #[.string ⟨code.toArray⟩, .string ⟨area.toArray⟩]) rfl (fun W hW => by obtain ⟨m0, m1, m2⟩ := hW; go_simp) (fun _ _ _ h => h) ?_
        simp only [Act.put, List.setIfInBounds_toArray, List.set_cons_zero, List.set_cons_succ]
        refine seqI_take (v := .pointer (some ⟨S, 0, none⟩)) rfl (fun W hW => by obtain ⟨m0, m1, m2⟩ := hW; go_simp) (fun _ _ _ h => h) ?_
        simp only [Act.put, List.setIfInBounds_toArray, List.set_cons_zero, List.set_cons_succ]
        refine seqI_take (v := .slice a n cap) rfl (fun W hW => by obtain ⟨m0, m1, m2⟩ := hW; go_simp) (fun _ _ _ h => h) ?_
        simp only [Act.put, List.setIfInBounds_toArray, List.set_cons_zero, List.set_cons_succ]
        refine seqI_call 44 #[.pointer (some ⟨S, 0, none⟩), .slice a n cap] rfl (by go_simp) (rightNumber_any S (k + 1) _ a n cap l HSD.out (by omega) (fun w9 h9 => HR.out w9 (HKB.out.trans (HKD.out.trans h9))) hcap h1 HNA.out HEE.out) ?_
        rintro e w9 ⟨s, rfl, ⟨hrn, hs⟩, hst9, hk9⟩
        have hrow9 := HR.out _ (HKB.out.trans (HKD.out.trans hk9))
        have HSPL := Lib.hid (right_split HEE.out (fun i hi => (hrow9.each i hi).row.len) hrn)
        refine ⟨_, rfl, HC0.out _ (HKD.out.trans hk9), ?_⟩
        have HS9 := Lib.hid hst9
        have HK9 := Lib.hid (HKD.out.trans hk9)
        clear hst9 hk9
        simp only [Act.put, List.setIfInBounds_toArray, List.set_cons_zero, List.set_cons_succ]
        refine seqI_call 24 #[.slice a n cap, .agg #[.string ⟨code.toArray⟩, .string ⟨area.toArray⟩], .string ⟨s.toArray⟩] rfl (by go_simp) (waysFrom_any S (k + 1 + 4000) w9 a n cap l HS9.out (by omega) (fun w8 h8 => HR.out w8 (HKB.out.trans (HK9.out.trans h8))) hcap h1 HEE.out c code area s HFC.out HIN.out har (by omega) HSPL.out) ?_
        rintro e w10 ⟨v10, rfl, ho10, hk10, hst10⟩
        have HK10 := Lib.hid (HK9.out.trans hk10)
        have HS10 := Lib.hid hst10
        refine ⟨_, rfl, HC0.out _ HK10.out, ?_⟩
        have hwl : ∀ x ∈ sortW (waysL l c area s), x.length ≤ 900 := by
          have h8 := ctry_len hrow9 HFC.out
          have h9 := spl_len hrow9 s
          exact ways_len h8.2.1 h8.2.2 h9.2.1 h9.2.2 (by omega)
        obtain ⟨q, hq, hq2⟩ := ways_one l c area s
        have HWL := Lib.hid hwl
        have HO10 := Lib.hid ho10
        clear hk10 hst10 hrow9 hrn hwl ho10
        generalize sortW (waysL l c area s) = WL at HWL HO10 hq
        rw [hq] at HO10
        have HQ := Lib.hid hq
        clear hq
        obtain ⟨g, cg, rfl, hg1, hg2⟩ := own_row1 HO10.out
        have HOA : Hid (∀ W, Keeps S w10 W → ∀ j, j < q + 1 → W.cell? ⟨g, j, none⟩ = some (.string ⟨(WL.getD j []).toArray⟩)) := fun W hW j hj => by
          have hgS : g ≠ S := by have := HS9.out.lt; omega
          rw [hW.cell (p := ⟨g, j, none⟩) hg2 hgS, HO10.out.cellAt j (by omega)]
          have : j < WL.length := by rw [HQ.out]; exact hj
          simp [encS, this]
        simp only [Act.put, List.setIfInBounds_toArray, List.set_cons_zero, List.set_cons_succ]
        refine seqI_take (v := .slice (some ⟨g, 0, none⟩) (q + 1) cg) rfl (fun W hW => by obtain ⟨m0, m1, m2⟩ := hW; go_simp) (fun _ _ _ h => h) ?_
        simp only [Act.put, List.setIfInBounds_toArray, List.set_cons_zero, List.set_cons_succ]
        refine seqI_nil ?_
        clear HS0 HSD HKD HS9 HK9 hg1
        as_aux_lemma =>
          go_wp2_with fail
          refine (next_any S (k + 1 + 4000) ((q : Int) + 1) _ HS10.out (by omega) (by omega) (by omega)).mono ?_
          rintro e w11 ⟨r, rfl, r0, r1, hst11, hk11⟩
          obtain ⟨r, rfl⟩ := Int.eq_ofNat_of_zero_le r0
          have hr : r < q + 1 := by omega
          have ck := HOA.out w11 hk11 r hr
          have hgw : g < w11.heap.size := Nat.lt_of_lt_of_le hg2 hk11.size
          have htl : (WL.getD r []).length ≤ 900 := by
            have : r < WL.length := by rw [HQ.out]; exact hr
            rw [show WL.getD r [] = WL[r] by simp [this]]
            exact HWL.out _ (List.getElem_mem this)
          generalize WL.getD r [] = t at ck htl
          have HK11 := Lib.hid (HK10.out.trans hk11)
          have HS11 := Lib.hid hst11
          clear hst11 hk11 r0 r1 HOA HWL hg2
          as_aux_lemma =>
            go_wp2_with fail
            refine (next_any S (k + 1 + 4000 + 1) 4 _ HS11.out (by omega) (by omega) (by omega)).mono ?_
            rintro e w12 ⟨p, rfl, p0, p1, hst12, hk12⟩
            have HK12 := Lib.hid (HK11.out.trans hk12)
            have HS12 := Lib.hid hst12
            clear hst12 hk12 ck
            have hp : p = 0 ∨ p = 1 ∨ 2 ≤ p := by omega
            rcases hp with rfl | rfl | hp
            · skip
              as_aux_lemma =>
                go_wp2_with fail
                refine (range_any S (k + 1 + 4000 + 1 + 1) 0 (t.length : Int) _ HS12.out (by omega) (by omega) (by omega) (by omega)).mono ?_
                rintro e w13 ⟨z, rfl, z0, z1, hst13, hk13⟩
                obtain ⟨z, rfl⟩ := Int.eq_ofNat_of_zero_le z0
                have hz : z ≤ t.length := by omega
                have HK13 := Lib.hid (HK12.out.trans hk13)
                have HS13 := Lib.hid hst13
                have hxl : (t.take z).length ≤ 1000 := by rw [List.length_take]; omega
                have HXL := Lib.hid hxl
                clear hst13 hk13 z0 z1 hxl
                go_wp2_with fail
                rw [ext_take]
                go_ret
                exact ⟨_, rfl, HXL.out, HS13.out.mono (by omega), HKB.out.trans HK13.out⟩
            · skip
              as_aux_lemma =>
                go_wp2_with fail
                refine (changed_any S (k + 1 + 4000 + 1 + 1) w12 t [48, 49, 50, 51, 52, 53, 57] HS12.out (by omega) (by omega) (by decide)).mono ?_
                rintro e w13 ⟨y, rfl, hy, hst13, hk13⟩
                have HK13 := Lib.hid (HK12.out.trans hk13)
                have HS13 := Lib.hid hst13
                have hy2 : y.length ≤ 1000 := by simp only [List.length_cons, List.length_nil] at hy; omega
                have HY := Lib.hid hy2
                clear hst13 hk13 hy hy2
                go_wp2_with fail
                go_ret
                exact ⟨y, rfl, HY.out, HS13.out.mono (by omega), HKB.out.trans HK13.out⟩
            · have hpa : (p == 0) = false := by simp; omega
              have hpb : (p == 1) = false := by simp; omega
              have htl2 : Hid (t.length ≤ 1000) := by show _ ≤ _; omega
              as_aux_lemma =>
                go_wp2_with fail
                go_ret
                exact ⟨t, rfl, htl2.out, HS12.out.mono (by omega), HKB.out.trans HK12.out⟩
end Go.Proofs.YthajppcmmmkfcaaGreatDoor
