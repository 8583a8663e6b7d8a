/- What is proved here: lemmas and contracts for the statement, put together out of smaller texts (PlanDrawn, PlanNumber, Numbered). No condition beyond those stated. -/
import Derived.Test.YtbbbaeenngjldaaGreatDoorSmPkE
import Derived.Test.YtbbbaeenngjldaaGreatDoorSmPkF
import Derived.Maps.AppendAt
import Derived.BigRegion
import Derived.Test.YtbbbaeenngjldaaGreatDoorSmPkA
import Derived.Deep.DeepCutAuto
import Derived.Test.YtbbbaeenngjldaaGreatDoorSmPkB
import Derived.Test.YtbbbaeenngjldaaGreatDoorSmPkC
import Derived.Lib.ConvBytes
set_option linter.unusedVariables false
set_option linter.unusedSimpArgs false
namespace Go.Proofs.YtbbbaeenngjldaaGreatDoor
open Go.RowKit

theorem Tryz.infoArea : (Tryz.prog.info? 182).map (fun i => (i.zero, i.size, i.bytes)) = some (some (.agg #[.string ⟨#[]⟩, .int .i64 0, .int .i64 0]), 3, 32) := by kernel_rfl

structure CtryEnd (S P : Nat) (w : World) (i : Nat) (c : Ctry) : Prop where
  cells : ∀ j, j < 4 → w.cell? ⟨P, i * 4 + j, none⟩ = c.cells[j]?
  fine : CtryFine w c
  some : 1 ≤ c.an
  at_ : ∃ b, c.aa = Option.some ⟨b, 0, none⟩ ∧ b ≠ S
structure PlanEnd (S P : Nat) (w : World) (l : List Ctry) : Prop where
  len : l.length = 3
  each : ∀ i, i < 3 → CtryEnd S P w i (l.getD i noCtry)
  offS : P ≠ S
  lt : P < w.heap.size
theorem CtryAt.ends {S P base : Nat} {w : World} {i : Nat} {c : Ctry} {b : Nat} (h : CtryAt S P base w i c b) : CtryEnd S P w i c := ⟨h.cells, h.fine, h.some, b, h.at_, h.off⟩
theorem CtryEnd.keeps {S P : Nat} {w w' : World} {i : Nat} {c : Ctry} (h : CtryEnd S P w i c) (hP : P < w.heap.size) (hS : P ≠ S) (hk : Keeps S w w') : CtryEnd S P w' i c := by
  obtain ⟨b, ha, hb⟩ := h.at_
  exact ⟨fun j hj => (hk.cell (p := ⟨P, i * 4 + j, none⟩) hP hS).trans (h.cells j hj), ⟨h.fine.code, h.fine.abroad, h.fine.trunk, h.fine.many, by have := h.fine.row; rw [ha] at this ⊢; exact this.keeps hb hk, h.fine.each⟩, h.some, b, ha, hb⟩
theorem PlanEnd.post {S P k : Nat} {w w' : World} {l : List Ctry} (h : PlanEnd S P w' l) (hs : StreamOk w' S k) (hk : Keeps S w w') : PlanPost S k w (.returned (.slice (some ⟨P, 0, none⟩) 3 3)) w' :=
  ⟨P, l, rfl, fun w9 h9 => ⟨h.len.symm, by omega, Or.inr ⟨P, 0, rfl, Nat.lt_of_lt_of_le h.lt h9.size, fun i hi j hj => by rw [Nat.zero_add]; exact ((h.each i hi).keeps h.lt h.offS h9).cells j hj⟩, fun i hi => ((h.each i (by rw [h.len] at hi; exact hi)).keeps h.lt h.offS h9).fine⟩, fun i hi => (h.each i (by rw [h.len] at hi; exact hi)).some, hs, hk⟩

theorem PlanPost.mono {S k k' : Nat} {w : World} {e : Ending} {w' : World} (h : PlanPost S k w e w') (hk : k ≤ k') : PlanPost S k' w e w' := by
  obtain ⟨P, l, he, h1, h2, h3, h4⟩ := h
  exact ⟨P, l, he, h1, h2, h3.mono hk, h4⟩
theorem AreaRow.set {w : World} {b n : Nat} {l : List Area} {p : Addr} {v : Value} (h : AreaRow w (some ⟨b, 0, none⟩) n l) (hp : p.block ≠ b) : AreaRow (w.setCell p v) (some ⟨b, 0, none⟩) n l := by
  refine ⟨h.len, h.row.imp id ?_⟩
  rintro ⟨b9, off, ha, hl, hc⟩
  injection ha with ha
  injection ha with e1 e2
  subst e1 e2
  exact ⟨b, 0, rfl, by simpa using hl, fun i hi j hj => (World.cell?_setCell_other _ _ _ _ (by rintro rfl; exact hp rfl)).trans (hc i hi j hj)⟩
theorem CtryFine.set {w : World} {c : Ctry} {b : Nat} {p : Addr} {v : Value} (h : CtryFine w c) (ha : c.aa = some ⟨b, 0, none⟩) (hp : p.block ≠ b) : CtryFine (w.setCell p v) c :=
  ⟨h.code, h.abroad, h.trunk, h.many, by have := h.row; rw [ha] at this ⊢; exact this.set hp, h.each⟩
theorem getD_set_same {l : List Ctry} {r : Nat} {c d : Ctry} (h : r < l.length) : (l.set r c).getD r d = c := by simp [h]
theorem getD_set_other {l : List Ctry} {r i : Nat} {c d : Ctry} (h : i ≠ r) : (l.set r c).getD i d = l.getD i d := by simp [List.getElem?_set, Ne.symm h]

/-- One cell of one country is written. -/
theorem end_set {S P : Nat} {w : World} {l : List Ctry} {r j : Nat} {v : Value} {c' : Ctry} (hlen : l.length = 3) (hr : r < 3) (hj : j < 4) (hPS : P ≠ S) (hPl : P < w.heap.size)
    (ho : ∀ i, i < 3 → i ≠ r → CtryEnd S P w i (l.getD i noCtry) ∧ ∀ b, (l.getD i noCtry).aa = some ⟨b, 0, none⟩ → b ≠ P)
    (hc : ∀ q, q < 4 → w.cell? ⟨P, r * 4 + q, none⟩ = (l.getD r noCtry).cells[q]?) (hcells : c'.cells = (l.getD r noCtry).cells.set j v)
    (hf : CtryFine (w.setCell ⟨P, r * 4 + j, none⟩ v) c') (hs : 1 ≤ c'.an) (hb : ∃ b, c'.aa = some ⟨b, 0, none⟩ ∧ b ≠ S) : PlanEnd S P (w.setCell ⟨P, r * 4 + j, none⟩ v) (l.set r c') := by
  refine ⟨by simpa using hlen, fun i hi => ?_, hPS, by simpa using hPl⟩
  by_cases hir : i = r
  · subst hir
    rw [getD_set_same (by omega)]
    refine ⟨fun q hq => ?_, hf, hs, hb⟩
    rw [hcells]
    by_cases hqj : q = j
    · subst hqj
      obtain ⟨u, hu⟩ : ∃ u, w.cell? ⟨P, i * 4 + q, none⟩ = some u := ⟨_, (hc q hq).trans (List.getElem?_eq_getElem (by simpa [Ctry.cells] using hq))⟩
      rw [World.cell?_setCell_same _ _ _ hu, List.getElem?_set_self (by simpa [Ctry.cells] using hq)]
    · rw [World.cell?_setCell_other _ _ _ _ (by intro e; injection e with _ e2 _; omega), List.getElem?_set_ne (Ne.symm hqj)]
      exact hc q hq
  · rw [getD_set_other hir]
    obtain ⟨⟨h1, h2, h3, b, h4, h5⟩, h6⟩ := ho i hi hir
    exact ⟨fun q hq => (World.cell?_setCell_other _ _ _ _ (by intro e; injection e with _ e2 _; omega)).trans (h1 q hq), h2.set h4 (by show P ≠ b; exact Ne.symm (h6 b h4)), h3, b, h4, h5⟩

/-- The same where the areas stay. -/
theorem PlanAt.put {S P base : Nat} {w : World} {l : List Ctry} {bs : List Nat} (h : PlanAt S P base w l bs) {r j : Nat} {v : Value} {c' : Ctry} (hr : r < 3) (hj : j < 4) (hcells : c'.cells = (l.getD r noCtry).cells.set j v) (e1 : c'.aa = (l.getD r noCtry).aa) (e2 : c'.an = (l.getD r noCtry).an) (e3 : c'.areas = (l.getD r noCtry).areas) (n1 : c'.code.length ≤ 100) (n2 : c'.abroad.length ≤ 100) (n3 : c'.trunk.length ≤ 100) : PlanEnd S P (w.setCell ⟨P, r * 4 + j, none⟩ v) (l.set r c') := by
  have hc := h.each r hr
  refine end_set h.len hr hj h.offS h.lt (fun i hi hn => ⟨(h.each i hi).ends, fun b hb => ?_⟩) hc.cells hcells ?_ (by rw [e2]; exact hc.some) ⟨_, by rw [e1]; exact hc.at_, hc.off⟩
  · have := (h.each i hi).at_
    rw [hb] at this
    injection this with this
    injection this with this
    rw [this]
    exact (h.each i hi).offP
  · have hf := hc.fine.set (v := v) (p := ⟨P, r * 4 + j, none⟩) hc.at_ (Ne.symm hc.offP)
    exact ⟨n1, n2, n3, by rw [e2]; exact hf.many, by rw [e1, e2, e3]; exact hf.row, by rw [e3]; exact hf.each⟩

theorem snoc_lt {l : List Area} {x : Area} {i : Nat} (h : i < l.length) : (l ++ [x]).getD i noArea = l.getD i noArea := by simp [List.getElem?_append_left h]
theorem snoc_eq {l : List Area} {x : Area} : (l ++ [x]).getD l.length noArea = x := by simp
theorem set0_ne {l : List Area} {x : Area} {i : Nat} (h : i ≠ 0) : (l.set 0 x).getD i noArea = l.getD i noArea := by simp [List.getElem?_set, Ne.symm h]
theorem set0_eq {l : List Area} {x : Area} (h : 0 < l.length) : (l.set 0 x).getD 0 noArea = x := by simp [h]
theorem areaCells_get (l : List Area) (i j : Nat) (hi : i < l.length) (hj : j < 3) : (areaCells l)[i * 3 + j]? = (l.getD i noArea).cells[j]? := by
  induction l generalizing i with
  | nil => simp at hi
  | cons x xs ih =>
    unfold areaCells at *
    rw [List.flatMap_cons]
    cases i with
    | zero => rw [List.getElem?_append_left (by simp [Area.cells]; omega)]; simp
    | succ i =>
      rw [List.getElem?_append_right (by simp [Area.cells]; omega)]
      have := ih i (by simpa using hi)
      rw [show (i + 1) * 3 + j - x.cells.length = i * 3 + j by simp [Area.cells]; omega, this]
      simp
theorem areaCells_snoc (l : List Area) (x : Area) : areaCells (l ++ [x]) = areaCells l ++ x.cells := by simp [areaCells, List.flatMap_append]
theorem AreaRow.off {w w' : World} {b n : Nat} {l : List Area} (h : AreaRow w (some ⟨b, 0, none⟩) n l) (hb : b < w.heap.size → w'.heap[b]? = w.heap[b]?) (hz : w.heap.size ≤ w'.heap.size) : AreaRow w' (some ⟨b, 0, none⟩) n l := by
  refine ⟨h.len, h.row.imp id ?_⟩
  rintro ⟨b9, off, ha, hl, hc⟩
  injection ha with ha
  injection ha with e1 e2
  subst e1 e2
  exact ⟨b, 0, rfl, Nat.lt_of_lt_of_le hl hz, fun i hi j hj => (World.cell?_of_block (w := w) (a := ⟨b, 0 + i * 3 + j, none⟩) (hb hl)).trans (hc i hi j hj)⟩

/-- A country that has one area more. -/
def Ctry.more (c : Ctry) (a : Option Addr) (cap : Nat) (x : Area) : Ctry := ⟨c.code, c.abroad, c.trunk, a, c.an + 1, cap, c.areas ++ [x]⟩
theorem end_grow {S base P : Nat} {w8 w9 : World} {l : List Ctry} {bs : List Nat} {r : Nat} (hA : PlanAt S P base w8 l bs) (hO : PlanOwn base w8 l bs) (hS : S < base) (hr : r < 3) {x : Area} (hx : AreaFine x) {v9 : Value}
    (hown : w9.ownsRow base 182 3 v9 ((l.getD r noCtry).an + 1) (areaCells (l.getD r noCtry).areas ++ x.cells)) (hgr : w8.grownBy w9 (some (bs.getD r 0))) (hat : v9.ownBlock = some (bs.getD r 0) ∨ v9.ownBlock = some w8.heap.size) :
    ∃ a9 c9, v9 = .slice a9 ((l.getD r noCtry).an + 1) c9 ∧ PlanEnd S P (w9.setCell ⟨P, r * 4 + 3, none⟩ v9) (l.set r ((l.getD r noCtry).more a9 c9 x)) := by
  have hP := hA.lt
  have hblk : ∀ k, k < w8.heap.size → k ≠ bs.getD r 0 → w9.heap[k]? = w8.heap[k]? := fun k hk hn => hgr.block k hk (fun e => hn (by injection e))
  have hPr : P ≠ bs.getD r 0 := Ne.symm (hA.each r hr).offP
  rcases hown.2 with ⟨_, h0⟩ | ⟨g, c9, cur, rfl, hbg, hg, _, _, _, _⟩
  · omega
  have hgl := (hown.lt g rfl).2
  have hgP : g ≠ P := by
    rcases hat with h | h
    · simp [Value.ownBlock] at h; rw [h]; exact (hA.each r hr).offP
    · simp [Value.ownBlock] at h; omega
  have hcP : ∀ o, w9.cell? ⟨P, o, none⟩ = w8.cell? ⟨P, o, none⟩ := fun o => World.cell?_of_block (w := w8) (a := ⟨P, o, none⟩) (hblk P hP hPr)
  refine ⟨some ⟨g, 0, none⟩, c9, rfl, ?_⟩
  have hlen : (l.getD r noCtry).an = (l.getD r noCtry).areas.length := (hA.each r hr).fine.row.len
  have hrow : AreaRow w9 (some ⟨g, 0, none⟩) ((l.getD r noCtry).an + 1) ((l.getD r noCtry).areas ++ [x]) := by
    have hl1 : ((l.getD r noCtry).areas ++ [x]).length = (l.getD r noCtry).areas.length + 1 := by rw [List.length_append]; rfl
    refine ⟨by rw [hl1, hlen], Or.inr ⟨g, 0, rfl, hgl, fun i hi j hj => ?_⟩⟩
    rw [Nat.zero_add, hown.cellAt _ (by omega), ← areaCells_snoc, areaCells_get _ _ _ (by omega) hj]
  refine end_set hA.len hr (by omega) hA.offS (Nat.lt_of_lt_of_le hP hgr.size) (fun i hi hn => ?_) (fun q hq => (hcP _).trans ((hA.each r hr).cells q hq)) ?_ ?_ (by show 1 ≤ _ + 1; omega) ⟨g, rfl, by omega⟩
  · have hi' := hA.each i hi
    refine ⟨⟨fun j hj => (hcP _).trans (hi'.cells j hj), ⟨hi'.fine.code, hi'.fine.abroad, hi'.fine.trunk, hi'.fine.many, ?_, hi'.fine.each⟩, hi'.some, _, hi'.at_, hi'.off⟩, fun b hb => ?_⟩
    · have := hi'.fine.row
      rw [hi'.at_] at this ⊢
      exact this.off (fun hl => hblk _ hl (hO.alone i r hi hr hn)) hgr.size
    · have := hi'.at_
      rw [hb] at this
      injection this with this
      injection this with this
      rw [this]
      exact hi'.offP
  · rfl
  · have hf := (hA.each r hr).fine
    refine ⟨hf.code, hf.abroad, hf.trunk, by show _ + 1 ≤ 1000; have := hO.few r hr; omega, hrow.set (by show P ≠ g; omega), fun i hi => ?_⟩
    show AreaFine (((l.getD r noCtry).areas ++ [x]).getD i noArea)
    have hi' : i < (l.getD r noCtry).areas.length + 1 := by simpa [Ctry.more] using hi
    by_cases h : i < (l.getD r noCtry).areas.length
    · rw [snoc_lt h]; exact hf.each i h
    · have e : i = (l.getD r noCtry).areas.length := by omega
      rw [e, snoc_eq]; exact hx

/-- A country of which the first area has other bounds. -/
def Ctry.first (c : Ctry) (x y : Int) : Ctry := ⟨c.code, c.abroad, c.trunk, c.aa, c.an, c.ac, c.areas.set 0 ⟨(c.areas.getD 0 noArea).pre, x, y⟩⟩
theorem end_low {S base P : Nat} {w : World} {l : List Ctry} {bs : List Nat} {r : Nat} (hA : PlanAt S P base w l bs) (ha : ∀ i j, i < 3 → j < 3 → i ≠ j → bs.getD i 0 ≠ bs.getD j 0) (hr : r < 3) {x y : Int} (x0 : -4000000000000 ≤ x) (x1 : x ≤ 4000000000000) (y0 : -4000000000000 ≤ y) (y1 : y ≤ 4000000000000) :
    PlanEnd S P ((w.setCell ⟨bs.getD r 0, 1, none⟩ (.int .i64 x)).setCell ⟨bs.getD r 0, 2, none⟩ (.int .i64 y)) (l.set r ((l.getD r noCtry).first x y)) := by
  have hP := hA.lt
  have hR := hA.each r hr
  have hother : ∀ b o, b ≠ bs.getD r 0 → ((w.setCell ⟨bs.getD r 0, 1, none⟩ (.int .i64 x)).setCell ⟨bs.getD r 0, 2, none⟩ (.int .i64 y)).cell? ⟨b, o, none⟩ = w.cell? ⟨b, o, none⟩ := fun b o hn => (World.cell?_setCell_other _ _ _ _ (by intro e; injection e with e; exact hn e.symm)).trans (World.cell?_setCell_other _ _ _ _ (by intro e; injection e with e; exact hn e.symm))
  have hrow0 := hR.fine.row
  rw [hR.at_] at hrow0
  have hlen : (l.getD r noCtry).an = (l.getD r noCtry).areas.length := hrow0.len
  have hsome := hR.some
  have hcell : ∀ i, i < (l.getD r noCtry).an → ∀ j, j < 3 → w.cell? ⟨bs.getD r 0, i * 3 + j, none⟩ = ((l.getD r noCtry).areas.getD i noArea).cells[j]? := by
    rcases hrow0.row with h | ⟨b9, off, ha, hl, hc⟩
    · omega
    · injection ha with ha
      injection ha with e1 e2
      subst e1 e2
      intro i hi j hj
      simpa using hc i hi j hj
  refine ⟨by simpa using hA.len, fun i hi => ?_, hA.offS, by simpa using hP⟩
  by_cases hir : i = r
  · subst hir
    rw [getD_set_same (by rw [hA.len]; exact hi)]
    refine ⟨fun j hj => (hother _ _ (Ne.symm hR.offP)).trans (hR.cells j hj), ⟨hR.fine.code, hR.fine.abroad, hR.fine.trunk, hR.fine.many, ?_, fun k hk => ?_⟩, hR.some, _, hR.at_, hR.off⟩
    · show AreaRow _ (l.getD i noCtry).aa _ _
      rw [hR.at_]
      refine ⟨by simpa [Ctry.first] using hlen, Or.inr ⟨_, 0, rfl, by simpa using hR.lt, fun k hk j hj => ?_⟩⟩
      have hk' : k < (l.getD i noCtry).an := hk
      have h1 := hcell k hk' j hj
      rw [Nat.zero_add]
      show _ = (((l.getD i noCtry).areas.set 0 ⟨((l.getD i noCtry).areas.getD 0 noArea).pre, x, y⟩).getD k noArea).cells[j]?
      by_cases hk0 : k = 0
      · subst hk0
        have e : (((l.getD i noCtry).areas.set 0 ⟨((l.getD i noCtry).areas.getD 0 noArea).pre, x, y⟩).getD 0 noArea) = ⟨((l.getD i noCtry).areas.getD 0 noArea).pre, x, y⟩ := by
          exact set0_eq (by omega)
        rw [e]
        have hc1 := hcell 0 hk' 1 (by omega)
        have hc2 := hcell 0 hk' 2 (by omega)
        simp only [Nat.zero_mul, Nat.zero_add] at h1 hc1 hc2 ⊢
        match j, hj with
        | 0, _ => exact ((World.cell?_setCell_other _ _ _ _ (by simp)).trans (World.cell?_setCell_other _ _ _ _ (by simp))).trans h1
        | 1, _ => exact (World.cell?_setCell_other _ _ _ _ (by simp)).trans (World.cell?_setCell_same _ _ _ hc1)
        | 2, _ => exact World.cell?_setCell_same _ _ _ ((World.cell?_setCell_other _ _ _ _ (by simp)).trans hc2)
      · rw [set0_ne hk0, ← h1]
        exact (World.cell?_setCell_other _ _ _ _ (by intro e; injection e with _ e2 _; omega)).trans (World.cell?_setCell_other _ _ _ _ (by intro e; injection e with _ e2 _; omega))
    · have hk' : k < (l.getD i noCtry).areas.length := by simpa [Ctry.first] using hk
      show AreaFine (((l.getD i noCtry).areas.set 0 ⟨((l.getD i noCtry).areas.getD 0 noArea).pre, x, y⟩).getD k noArea)
      by_cases hk0 : k = 0
      · subst hk0
        rw [set0_eq hk']
        exact ⟨(hR.fine.each 0 hk').pre, x0, x1, y0, y1⟩
      · rw [set0_ne hk0]
        exact hR.fine.each k hk'
  · rw [getD_set_other hir]
    have hi' := hA.each i hi
    refine ⟨fun j hj => (hother _ _ (Ne.symm hR.offP)).trans (hi'.cells j hj), ⟨hi'.fine.code, hi'.fine.abroad, hi'.fine.trunk, hi'.fine.many, ?_, hi'.fine.each⟩, hi'.some, _, hi'.at_, hi'.off⟩
    have := hi'.fine.row
    rw [hi'.at_] at this ⊢
    exact (this.set (by show bs.getD r 0 ≠ bs.getD i 0; exact ha r i hr hi (Ne.symm hir))).set (by show bs.getD r 0 ≠ bs.getD i 0; exact ha r i hr hi (Ne.symm hir))

theorem StreamOk.setP {w : World} {S k P o : Nat} (h : StreamOk w S k) (hP : S < P) (v : Value) : StreamOk (w.setCell ⟨P, o, none⟩ v) S k := h.upto ((Below.refl _ _).setCell (by show S + 1 ≤ P; omega) _)

theorem end_append {S k P : Nat} {w w8 w9 : World} {l : List Ctry} {bs : List Nat} {r : Nat} (hA : PlanAt S P w.heap.size w8 l bs) (hO : PlanOwn w.heap.size w8 l bs) (hS : S < w.heap.size) (hr : r < 3) {x : Area} (hx : AreaFine x) {v9 : Value} {c : Ctry} (hc : l.getD r noCtry = c)
    (hown : w9.ownsRow w.heap.size 182 3 v9 (c.an + 1) (areaCells c.areas ++ x.cells)) (hgr : w8.grownBy w9 (some (bs.getD r 0))) (hat : v9.ownBlock = some (bs.getD r 0) ∨ v9.ownBlock = some w8.heap.size) (hst : StreamOk w8 S k) (hk : Keeps S w w8) :
    ∃ a9 c9, v9 = .slice a9 (c.an + 1) c9 ∧ w9.cell? ⟨P, r * 4 + 3, none⟩ = some (.slice c.aa c.an c.ac) ∧ (∀ j, w9.frozen? ⟨P, j, none⟩ = false) ∧ PlanPost S k w (.returned (.slice (some ⟨P, 0, none⟩) 3 3)) (w9.setCell ⟨P, r * 4 + 3, none⟩ v9) := by
  subst hc
  obtain ⟨a9, c9, hv, he⟩ := end_grow hA hO hS hr hx hown hgr hat
  have hPr : P ≠ bs.getD r 0 := Ne.symm (hA.each r hr).offP
  have hblk : w9.heap[P]? = w8.heap[P]? := hgr.block P hA.lt (fun e => hPr (by injection e))
  have hnew := (hA.each r hr).new
  have hz := hk.size
  refine ⟨a9, c9, hv, (World.cell?_of_block (w := w8) (a := ⟨P, r * 4 + 3, none⟩) hblk).trans ((hA.each r hr).cells 3 (by omega)), fun j => (World.frozen?_of_block (w := w8) (a := ⟨P, j, none⟩) hblk).trans (hA.fro j), he.post ?_ ?_⟩
  · exact StreamOk.setP (hst.upto ((Below.refl (S + 1) w8).grown hgr (by omega) (by intro b hb; injection hb with hb; omega))) (by have := hA.new; omega) _
  · exact (hk.grown0 hgr (by intro b hb; injection hb with hb; omega)).setCell_new hA.new _

theorem bs_string_cs6 (e : Operand → Value) (he : ∀ v, e (.const v) = v) (o : Oper) (w : World)  (p0 : ByteArray) (p1 : ByteArray) (p2 : ByteArray) (p3 : ByteArray) (p4 : ByteArray) (p5 : ByteArray) (ho : o.op = .buildSlice 35 6 #[(0, .const (.string p0)), (1, .const (.string p1)), (2, .const (.string p2)), (3, .const (.string p3)), (4, .const (.string p4)), (5, .const (.string p5))])  :
   (execOp e o).run Tryz.prog w = .ok (.value (.slice (some ⟨w.heap.size, 0, none⟩) 6 6)) (w.alloc (.cells #[.string p0, .string p1, .string p2, .string p3, .string p4, .string p5] 9)) := by
  unfold execOp
  rw [ho]
  simp only [List.map_toArray, List.map_cons, List.map_nil, he]
  kernel_rfl
theorem bs_int_ci3 (e : Operand → Value) (he : ∀ v, e (.const v) = v) (o : Oper) (w : World)  (z0 : Int) (z1 : Int) (z2 : Int) (ho : o.op = .buildSlice 22 3 #[(0, .const (.int .i64 z0)), (1, .const (.int .i64 z1)), (2, .const (.int .i64 z2))])  :
   (execOp e o).run Tryz.prog w = .ok (.value (.slice (some ⟨w.heap.size, 0, none⟩) 3 3)) (w.alloc (.cells #[.int .i64 z0, .int .i64 z1, .int .i64 z2] 3)) := by
  unfold execOp
  rw [ho]
  simp only [List.map_toArray, List.map_cons, List.map_nil, he]
  kernel_rfl
theorem bs_api_Area_tasiiz (e : Operand → Value) (he : ∀ v, e (.const v) = v) (o : Oper) (w : World) (i0 : Nat) (p0_0 : ByteArray) (z0_1 : Int) (z0_2 : Int) (ho : o.op = .buildSlice 177 1 #[(0, .tmp i0)]) (h0 : e (.tmp i0) = .agg #[.string p0_0, .int .i64 z0_1, .int .i64 z0_2]) :
   (execOp e o).run Tryz.prog w = .ok (.value (.slice (some ⟨w.heap.size, 0, none⟩) 1 1)) (w.alloc (.cells #[.string p0_0, .int .i64 z0_1, .int .i64 z0_2] 182)) := by
  unfold execOp
  rw [ho]
  simp only [List.map_toArray, List.map_cons, List.map_nil, h0]
  kernel_rfl
set_option maxRecDepth 100000 in
set_option maxHeartbeats 16000000 in
theorem countries_any (S k : Nat) (w : World) (h : StreamOk w S k) (hk : k ≤ 10000000) : Calls Tryz.prog 10 #[.pointer (some ⟨S, 0, none⟩)] w (PlanPost S (k + 20) w) := by
  have HS := Lib.hid h
  have hlt := h.lt
  clear h
  go_enter Tryz.func10, Tryz.ntmps10
  go_wp2_with fail
  refine (rightCountries_any S k _ HS.out (by omega)).mono ?_
  rintro e w1 ⟨P, l, bs, rfl, hpl, hst1, hk1, hown⟩
  have HP := Lib.hid hpl
  have HS1 := Lib.hid hst1
  have HK1 := Lib.hid hk1
  have HO := Lib.hid hown
  clear hpl hst1 hk1 hown
  as_aux_lemma =>
    go_wp2_with fail
    refine (flip_any S (k + 2) 12 _ HS1.out (by omega) (by decide) (by decide)).mono ?_
    rintro e w2 ⟨fl, rfl, hst2, hkp2⟩
    have HP2 := Lib.hid (HP.out.keeps hkp2)
    have HO2 := Lib.hid (HO.out.keeps hlt hkp2)
    have HS2 := Lib.hid hst2
    have HK2 := Lib.hid (HK1.out.trans hkp2)
    clear hst2 hkp2 HP HO HS1 HK1
    cases fl
    · have HF : Hid (PlanPost S (k + 20) w (.returned (.slice (some ⟨P, 0, none⟩) 3 3)) w2) := HP2.out.post (HS2.out.mono (by omega)) HK2.out
      go_wp2_with fail
      go_ret
      exact HF.out
    · skip
      as_aux_lemma =>
        go_wp2_with fail
        refine (next_any S (k + 2 + 1) 3 _ HS2.out (by omega) (by decide) (by decide)).mono ?_
        rintro e w3 ⟨r, rfl, r0, r1, hst3, hkp3⟩
        obtain ⟨r, rfl⟩ := Int.eq_ofNat_of_zero_le r0
        have hr : r < 3 := by omega
        have HP3 := Lib.hid (HP2.out.keeps hkp3)
        have HO3 := Lib.hid (HO2.out.keeps hlt hkp3)
        have HS3 := Lib.hid hst3
        have HK3 := Lib.hid (HK2.out.trans hkp3)
        clear hst3 hkp3 HP2 HO2 HS2 HK2 r0 r1
        as_aux_lemma =>
          go_wp2_with fail
          refine (next_any S (k + 2 + 1 + 1) 6 _ HS3.out (by omega) (by decide) (by decide)).mono ?_
          rintro e w4 ⟨q, rfl, q0, q1, hst4, hkp4⟩
          have HP4 := Lib.hid (HP3.out.keeps hkp4)
          have HO4 := Lib.hid (HO3.out.keeps hlt hkp4)
          have HS4 := Lib.hid hst4
          have HK4 := Lib.hid (HK3.out.trans hkp4)
          have hl4 := hst4.lt
          have hP4 := HP4.out.lt
          have hPS := HP4.out.offS
          clear hst4 hkp4 HP3 HO3 HS3 HK3
          have hcc := (HP4.out.each r hr).cells
          have k0 := hcc 0 (by omega)
          have k1 := hcc 1 (by omega)
          have k2 := hcc 2 (by omega)
          have k3 := hcc 3 (by omega)
          have kf := HP4.out.fro
          have kfin := (HP4.out.each r hr).fine
          have kat := (HP4.out.each r hr).at_
          have HCR : Hid (l.getD r noCtry = l.getD r noCtry) := rfl
          generalize hcr : l.getD r noCtry = c at k0 k1 k2 k3 kfin kat HCR
          have HCE := Lib.hid hcr
          clear hcr hcc
          obtain ⟨code, abroad, trunk, aa, an, ac, areas⟩ := c
          simp only [Ctry.cells, List.getElem?_cons_zero, List.getElem?_cons_succ, Nat.add_zero] at k0 k1 k2 k3
          obtain ⟨hcode, habr, htr, hmany, -, -⟩ := kfin
          simp only at hcode habr htr hmany kat
          as_aux_lemma =>
            have hq : q = 0 ∨ q = 1 ∨ q = 2 ∨ q = 3 ∨ q = 4 ∨ q = 5 := by omega
            rcases hq with rfl | rfl | rfl | rfl | rfl | rfl
            · clear k3
              as_aux_lemma =>
                go_wp2_with (refine wpList_val rfl (bs_str6 _ (fun _ => rfl) _ _ _ _ _ _ _ _ rfl) ?_)
                refine (some_any S (k + 2 + 1 + 1 + 1) w4.heap.size 6 6 [[], [48], [52], [49, 50, 51, 52], [97], [52, 57]] (fun x => x.length ≤ 100) _ (HS4.out.below (ext_alloc (Below.refl _ _))) (by omega) (by simp) (by omega) (by omega) (by omega) (fun i hi => by match i, hi with | 0, _ | 1, _ | 2, _ | 3, _ | 4, _ | 5, _ => go_simp) (fun i hi => by match i, hi with | 0, _ | 1, _ | 2, _ | 3, _ | 4, _ | 5, _ => decide)).mono ?_
                rintro e w5 ⟨x, rfl, hx, hst5, hkp5⟩
                have m0 : w5.cell? ⟨P, r * 4, none⟩ = some (.string ⟨code.toArray⟩) := (hkp5.cell (p := ⟨P, r * 4, none⟩) (by show P < _; simp; omega) hPS).trans (by go_simp)
                have mf : ∀ j, w5.frozen? ⟨P, j, none⟩ = false := fun j => (hkp5.frozen (p := ⟨P, j, none⟩) (by show P < _; simp; omega) hPS).trans (by go_simp)
                have HK5 := Lib.hid ((HK4.out.alloc _).trans hkp5)
                have HP5 := Lib.hid ((HP4.out.keeps ((Keeps.refl S w4).alloc _)).keeps hkp5)
                have HS5 := Lib.hid hst5
                have HEN : Hid (PlanEnd S P (w5.setCell ⟨P, r * 4 + 0, none⟩ (.string ⟨x.toArray⟩)) (l.set r ⟨x, abroad, trunk, aa, an, ac, areas⟩)) := HP5.out.put hr (by omega) (by rw [HCE.out]; rfl) (by rw [HCE.out]) (by rw [HCE.out]) (by rw [HCE.out]) (show x.length ≤ 100 from hx) habr htr
                have HPB : Hid (w.heap.size ≤ P) := HP4.out.new
                have HF : Hid (PlanPost S (k + 20) w (.returned (.slice (some ⟨P, 0, none⟩) 3 3)) (w5.setCell ⟨P, r * 4, none⟩ (.string ⟨x.toArray⟩))) := HEN.out.post ((HS5.out.setP (by have := HPB.out; omega) _).mono (by omega)) (HK5.out.setCell_new HPB.out _)
                clear hst5 hkp5 k0 k1 k2 kf HP4 HP5 HEN
                as_aux_lemma =>
                  go_wp2_with fail
                  go_ret
                  exact HF.out
            · clear k3
              as_aux_lemma =>
                go_wp2_with (refine wpList_val rfl (bs_str7 _ (fun _ => rfl) _ _ _ _ _ _ _ _ _ rfl) ?_)
                refine (some_any S (k + 2 + 1 + 1 + 1) w4.heap.size 7 7 [[], [48, 48, 48, 48, 48], [120], [48], [51], [48, 51], [48, 51, 48]] (fun x => x.length ≤ 100) _ (HS4.out.below (ext_alloc (Below.refl _ _))) (by omega) (by simp) (by omega) (by omega) (by omega) (fun i hi => by match i, hi with | 0, _ | 1, _ | 2, _ | 3, _ | 4, _ | 5, _ | 6, _ => go_simp) (fun i hi => by match i, hi with | 0, _ | 1, _ | 2, _ | 3, _ | 4, _ | 5, _ | 6, _ => decide)).mono ?_
                rintro e w5 ⟨x, rfl, hx, hst5, hkp5⟩
                have m1 : w5.cell? ⟨P, r * 4 + 1, none⟩ = some (.string ⟨abroad.toArray⟩) := (hkp5.cell (p := ⟨P, r * 4 + 1, none⟩) (by show P < _; simp; omega) hPS).trans (by go_simp)
                have mf : ∀ j, w5.frozen? ⟨P, j, none⟩ = false := fun j => (hkp5.frozen (p := ⟨P, j, none⟩) (by show P < _; simp; omega) hPS).trans (by go_simp)
                have HK5 := Lib.hid ((HK4.out.alloc _).trans hkp5)
                have HP5 := Lib.hid ((HP4.out.keeps ((Keeps.refl S w4).alloc _)).keeps hkp5)
                have HS5 := Lib.hid hst5
                have HEN : Hid (PlanEnd S P (w5.setCell ⟨P, r * 4 + 1, none⟩ (.string ⟨x.toArray⟩)) (l.set r ⟨code, x, trunk, aa, an, ac, areas⟩)) := HP5.out.put hr (by omega) (by rw [HCE.out]; rfl) (by rw [HCE.out]) (by rw [HCE.out]) (by rw [HCE.out]) hcode (show x.length ≤ 100 from hx) htr
                have HPB : Hid (w.heap.size ≤ P) := HP4.out.new
                have HF : Hid (PlanPost S (k + 20) w (.returned (.slice (some ⟨P, 0, none⟩) 3 3)) (w5.setCell ⟨P, r * 4 + 1, none⟩ (.string ⟨x.toArray⟩))) := HEN.out.post ((HS5.out.setP (by have := HPB.out; omega) _).mono (by omega)) (HK5.out.setCell_new HPB.out _)
                clear hst5 hkp5 k0 k1 k2 kf HP4 HP5 HEN
                as_aux_lemma =>
                  go_wp2_with fail
                  go_ret
                  exact HF.out
            · clear k3
              as_aux_lemma =>
                go_wp2_with (refine wpList_val rfl (bs_str4 _ (fun _ => rfl) _ _ _ _ _ _ rfl) ?_)
                refine (some_any S (k + 2 + 1 + 1 + 1) w4.heap.size 4 4 [[48, 48, 48], [48, 48], [120], [51]] (fun x => x.length ≤ 100) _ (HS4.out.below (ext_alloc (Below.refl _ _))) (by omega) (by simp) (by omega) (by omega) (by omega) (fun i hi => by match i, hi with | 0, _ | 1, _ | 2, _ | 3, _ => go_simp) (fun i hi => by match i, hi with | 0, _ | 1, _ | 2, _ | 3, _ => decide)).mono ?_
                rintro e w5 ⟨x, rfl, hx, hst5, hkp5⟩
                have m2 : w5.cell? ⟨P, r * 4 + 2, none⟩ = some (.string ⟨trunk.toArray⟩) := (hkp5.cell (p := ⟨P, r * 4 + 2, none⟩) (by show P < _; simp; omega) hPS).trans (by go_simp)
                have mf : ∀ j, w5.frozen? ⟨P, j, none⟩ = false := fun j => (hkp5.frozen (p := ⟨P, j, none⟩) (by show P < _; simp; omega) hPS).trans (by go_simp)
                have HK5 := Lib.hid ((HK4.out.alloc _).trans hkp5)
                have HP5 := Lib.hid ((HP4.out.keeps ((Keeps.refl S w4).alloc _)).keeps hkp5)
                have HS5 := Lib.hid hst5
                have HEN : Hid (PlanEnd S P (w5.setCell ⟨P, r * 4 + 2, none⟩ (.string ⟨x.toArray⟩)) (l.set r ⟨code, abroad, x, aa, an, ac, areas⟩)) := HP5.out.put hr (by omega) (by rw [HCE.out]; rfl) (by rw [HCE.out]) (by rw [HCE.out]) (by rw [HCE.out]) hcode habr (show x.length ≤ 100 from hx)
                have HPB : Hid (w.heap.size ≤ P) := HP4.out.new
                have HF : Hid (PlanPost S (k + 20) w (.returned (.slice (some ⟨P, 0, none⟩) 3 3)) (w5.setCell ⟨P, r * 4 + 2, none⟩ (.string ⟨x.toArray⟩))) := HEN.out.post ((HS5.out.setP (by have := HPB.out; omega) _).mono (by omega)) (HK5.out.setCell_new HPB.out _)
                clear hst5 hkp5 k0 k1 k2 kf HP4 HP5 HEN
                as_aux_lemma =>
                  go_wp2_with fail
                  go_ret
                  exact HF.out
            · skip
              subst kat
              as_aux_lemma =>
                go_upto_region 13 with (fail)
                refine region_late S (k + 2 + 1 + 1 + 1) 1 16 0 [.val (fun v => .pointer (some ⟨P, r * 4, none⟩) = v), .val (fun v => .pointer (some ⟨P, r * 4, none⟩) = v), .val (fun v => .pointer (some ⟨P, r * 4, none⟩) = v), .val (fun v => .pointer (some ⟨P, r * 4 + 3, none⟩) = v), .val (fun v => .slice (some ⟨bs.getD r 0, 0, none⟩) an ac = v), .val (fun v => .pointer (some ⟨S, 0, none⟩) = v), .arr 6 (· = [.string ⟨#[]⟩, .string ⟨#[56, 57, 49]⟩, .string ⟨#[57, 57]⟩, .string ⟨#[48]⟩, .string ⟨#[49, 50, 51, 52, 53, 54, 55, 56, 57]⟩, .string ⟨#[51, 48]⟩]), .val (fun v => ∃ s1 : List UInt8, (s1.length ≤ 100) ∧ .string ⟨s1.toArray⟩ = v), .val (fun v => .pointer (some ⟨S, 0, none⟩) = v), .arr 3 (· = [.int .i64 3, .int .i64 2, .int .i64 9]), .val (fun v => ∃ z2 : Int, (2 ≤ z2 ∧ z2 ≤ 9) ∧ .int .i64 z2 = v), .val (fun v => .pointer (some ⟨S, 0, none⟩) = v), .arr 3 (· = [.int .i64 9, .int .i64 2, .int .i64 14]), .val (fun v => ∃ z3 : Int, (2 ≤ z3 ∧ z3 ≤ 14) ∧ .int .i64 z3 = v), .val (fun v => ∃ s1 : List UInt8, (s1.length ≤ 100) ∧ ∃ z2 : Int, (2 ≤ z2 ∧ z2 ≤ 9) ∧ ∃ z3 : Int, (2 ≤ z3 ∧ z3 ≤ 14) ∧ .agg #[.string ⟨s1.toArray⟩, .int .i64 z2, .int .i64 z3] = v), .arr 1 (fun vs => ∃ s1 : List UInt8, (s1.length ≤ 100) ∧ ∃ z2 : Int, (2 ≤ z2 ∧ z2 ≤ 9) ∧ ∃ z3 : Int, (2 ≤ z3 ∧ z3 ≤ 14) ∧ ([.string ⟨s1.toArray⟩, .int .i64 z2, .int .i64 z3] : List Value) = vs)] [7, 10, 13] [some 43, some 44, some 45, some 46, some 47, some 48, some 49, some 50, some 51, some 52, some 53, some 54, some 55, some 56, some 57, some 58] (by kernel_rfl) (by kernel_rfl) (by kernel_rfl) (by kernel_rfl) (by kernel_rfl) (by kernel_rfl) rfl (by kernel_rfl) rfl rfl (by kernel_rfl) HS4.out ⟨?_, ?_, ?_, ?_, ?_, ?_, ?_, ?_, ?_, ?_, ?_, ?_, ?_, ?_, ?_, ?_, trivial⟩ ?_ ?_
                · intro a w' c hk hst hc hfr hdp K hK
                  as_aux_lemma =>
                    have E4 : a.eval (.tmp 4) = .pointer (some ⟨P, r * 4, none⟩) := fr_list hfr 4 (by kernel_rfl)
                    have d4 := slot_of E4
                    refine gen_pure (v := .pointer (some ⟨P, r * 4, none⟩)) ?_ (hK _ _ rfl (Keeps.refl _ _) hst)
                    clear hK hdp hfr
                    go_simp
                · intro a w' c hk hst hc hfr hdp K hK
                  as_aux_lemma =>
                    have E4 : a.eval (.tmp 4) = .pointer (some ⟨P, r * 4, none⟩) := fr_list hfr 4 (by kernel_rfl)
                    have d4 := slot_of E4
                    refine gen_pure (v := .pointer (some ⟨P, r * 4, none⟩)) ?_ (hK _ _ rfl (Keeps.refl _ _) hst)
                    clear hK hdp hfr
                    go_simp
                · intro a w' c hk hst hc hfr hdp K hK
                  as_aux_lemma =>
                    have E44 : a.eval (.tmp 44) = .pointer (some ⟨P, r * 4, none⟩) := Eq.symm (hdp 1 44 _ (by kernel_rfl) (by kernel_rfl) rfl)
                    have d44 := slot_of E44
                    refine gen_pure (v := .pointer (some ⟨P, r * 4, none⟩)) ?_ (hK _ _ rfl (Keeps.refl _ _) hst)
                    clear hK hdp hfr
                    go_simp
                · intro a w' c hk hst hc hfr hdp K hK
                  as_aux_lemma =>
                    have E45 : a.eval (.tmp 45) = .pointer (some ⟨P, r * 4, none⟩) := Eq.symm (hdp 2 45 _ (by kernel_rfl) (by kernel_rfl) rfl)
                    have d45 := slot_of E45
                    refine gen_pure (v := .pointer (some ⟨P, r * 4 + 3, none⟩)) ?_ (hK _ _ rfl (Keeps.refl _ _) hst)
                    clear hK hdp hfr
                    go_simp
                · intro a w' c hk hst hc hfr hdp K hK
                  as_aux_lemma =>
                    have E46 : a.eval (.tmp 46) = .pointer (some ⟨P, r * 4 + 3, none⟩) := Eq.symm (hdp 3 46 _ (by kernel_rfl) (by kernel_rfl) rfl)
                    have d46 := slot_of E46
                    have cl : w'.cell? ⟨P, r * 4 + 3, none⟩ = some (.slice (some ⟨bs.getD r 0, 0, none⟩) an ac) := (hk.cell (p := ⟨P, r * 4 + 3, none⟩) hP4 hPS).trans k3
                    refine gen_pure (v := .slice (some ⟨bs.getD r 0, 0, none⟩) an ac) ?_ (hK _ _ rfl (Keeps.refl _ _) hst)
                    clear hK hdp hfr
                    go_simp
                · intro a w' c hk hst hc hfr hdp K hK
                  as_aux_lemma =>
                    have E0 : a.eval (.tmp 0) = .pointer (some ⟨S, 0, none⟩) := fr_list hfr 0 (by kernel_rfl)
                    have d0 := slot_of E0
                    refine gen_pure (v := .pointer (some ⟨S, 0, none⟩)) ?_ (hK _ _ rfl (Keeps.refl _ _) hst)
                    clear hK hdp hfr
                    go_simp
                · intro a w' c hk hst hc hfr hdp K hK
                  as_aux_lemma =>
                    exact gen_alloc (p := (· = ([.string ⟨#[]⟩, .string ⟨#[56, 57, 49]⟩, .string ⟨#[57, 57]⟩, .string ⟨#[48]⟩, .string ⟨#[49, 50, 51, 52, 53, 54, 55, 56, 57]⟩, .string ⟨#[51, 48]⟩] : List Value))) #[.string ⟨#[]⟩, .string ⟨#[56, 57, 49]⟩, .string ⟨#[57, 57]⟩, .string ⟨#[48]⟩, .string ⟨#[49, 50, 51, 52, 53, 54, 55, 56, 57]⟩, .string ⟨#[51, 48]⟩] 9 (bs_string_cs6 _ (fun _ => rfl) _ _ _ _ _ _ _ _ rfl ) rfl hst hK
                · intro a w' c hk hst hc hfr hdp K hK
                  as_aux_lemma =>
                    have E48 : a.eval (.tmp 48) = .pointer (some ⟨S, 0, none⟩) := Eq.symm (hdp 5 48 _ (by kernel_rfl) (by kernel_rfl) rfl)
                    have d48 := slot_of E48
                    have d49 := hdp 6 49 _ (by kernel_rfl) (by kernel_rfl) rfl
                    have hc2 : c + 1 ≤ 3 := hc
                    generalize hv2 : a.eval (.tmp 49) = v2 at d49
                    have d3 := slot_of hv2
                    clear hv2
                    refine gen_call 12 #[.pointer (some ⟨S, 0, none⟩), v2] ?_ (calls_some S _ v2 [[], [56, 57, 49], [57, 57], [48], [49, 50, 51, 52, 53, 54, 55, 56, 57], [51, 48]] (fun s1 => s1.length ≤ 100) w' hst (by omega) d49 (by decide) (by decide) (by decide)) ?_
                    · clear hK hdp hfr; go_simp
                    rintro e w'' ⟨r, rfl, hr, hst2, hkp⟩
                    exact ⟨_, rfl, hK _ _ ⟨r, hr, rfl⟩ hkp (hst2.mono (by simp; omega))⟩
                · intro a w' c hk hst hc hfr hdp K hK
                  as_aux_lemma =>
                    have E0 : a.eval (.tmp 0) = .pointer (some ⟨S, 0, none⟩) := fr_list hfr 0 (by kernel_rfl)
                    have d0 := slot_of E0
                    refine gen_pure (v := .pointer (some ⟨S, 0, none⟩)) ?_ (hK _ _ rfl (Keeps.refl _ _) hst)
                    clear hK hdp hfr
                    go_simp
                · intro a w' c hk hst hc hfr hdp K hK
                  as_aux_lemma =>
                    exact gen_alloc (p := (· = ([.int .i64 3, .int .i64 2, .int .i64 9] : List Value))) #[.int .i64 3, .int .i64 2, .int .i64 9] 3 (bs_int_ci3 _ (fun _ => rfl) _ _ _ _ _ rfl ) rfl hst hK
                · intro a w' c hk hst hc hfr hdp K hK
                  as_aux_lemma =>
                    have E51 : a.eval (.tmp 51) = .pointer (some ⟨S, 0, none⟩) := Eq.symm (hdp 8 51 _ (by kernel_rfl) (by kernel_rfl) rfl)
                    have d51 := slot_of E51
                    have d52 := hdp 9 52 _ (by kernel_rfl) (by kernel_rfl) rfl
                    have hc2 : c + 1 ≤ 3 := hc
                    generalize hv2 : a.eval (.tmp 52) = v2 at d52
                    have d3 := slot_of hv2
                    clear hv2
                    refine gen_call 41 #[.pointer (some ⟨S, 0, none⟩), v2] ?_ (calls_pick S _ v2 [3, 2, 9] (fun z2 => 2 ≤ z2 ∧ z2 ≤ 9) w' hst (by omega) d52 (by decide) (by decide) (by decide)) ?_
                    · clear hK hdp hfr; go_simp
                    rintro e w'' ⟨r, rfl, hr, hst2, hkp⟩
                    exact ⟨_, rfl, hK _ _ ⟨r, hr, rfl⟩ hkp (hst2.mono (by simp; omega))⟩
                · intro a w' c hk hst hc hfr hdp K hK
                  as_aux_lemma =>
                    have E0 : a.eval (.tmp 0) = .pointer (some ⟨S, 0, none⟩) := fr_list hfr 0 (by kernel_rfl)
                    have d0 := slot_of E0
                    refine gen_pure (v := .pointer (some ⟨S, 0, none⟩)) ?_ (hK _ _ rfl (Keeps.refl _ _) hst)
                    clear hK hdp hfr
                    go_simp
                · intro a w' c hk hst hc hfr hdp K hK
                  as_aux_lemma =>
                    exact gen_alloc (p := (· = ([.int .i64 9, .int .i64 2, .int .i64 14] : List Value))) #[.int .i64 9, .int .i64 2, .int .i64 14] 3 (bs_int_ci3 _ (fun _ => rfl) _ _ _ _ _ rfl ) rfl hst hK
                · intro a w' c hk hst hc hfr hdp K hK
                  as_aux_lemma =>
                    have E54 : a.eval (.tmp 54) = .pointer (some ⟨S, 0, none⟩) := Eq.symm (hdp 11 54 _ (by kernel_rfl) (by kernel_rfl) rfl)
                    have d54 := slot_of E54
                    have d55 := hdp 12 55 _ (by kernel_rfl) (by kernel_rfl) rfl
                    have hc2 : c + 1 ≤ 3 := hc
                    generalize hv2 : a.eval (.tmp 55) = v2 at d55
                    have d3 := slot_of hv2
                    clear hv2
                    refine gen_call 41 #[.pointer (some ⟨S, 0, none⟩), v2] ?_ (calls_pick S _ v2 [9, 2, 14] (fun z3 => 2 ≤ z3 ∧ z3 ≤ 14) w' hst (by omega) d55 (by decide) (by decide) (by decide)) ?_
                    · clear hK hdp hfr; go_simp
                    rintro e w'' ⟨r, rfl, hr, hst2, hkp⟩
                    exact ⟨_, rfl, hK _ _ ⟨r, hr, rfl⟩ hkp (hst2.mono (by simp; omega))⟩
                · intro a w' c hk hst hc hfr hdp K hK
                  as_aux_lemma =>
                    obtain ⟨s1, hs1, e50⟩ := hdp 7 50 _ (by kernel_rfl) (by kernel_rfl) rfl
                    have E50 := Eq.symm e50
                    have d50 := slot_of E50
                    clear e50
                    obtain ⟨z2, hz2, e53⟩ := hdp 10 53 _ (by kernel_rfl) (by kernel_rfl) rfl
                    have E53 := Eq.symm e53
                    have d53 := slot_of E53
                    clear e53
                    obtain ⟨z3, hz3, e56⟩ := hdp 13 56 _ (by kernel_rfl) (by kernel_rfl) rfl
                    have E56 := Eq.symm e56
                    have d56 := slot_of E56
                    clear e56
                    refine gen_pure (v := .agg #[.string ⟨s1.toArray⟩, .int .i64 z2, .int .i64 z3]) ?_ (hK _ _ ⟨s1, hs1, z2, hz2, z3, hz3, rfl⟩ (Keeps.refl _ _) hst)
                    clear hK hdp hfr
                    go_simp
                · intro a w' c hk hst hc hfr hdp K hK
                  as_aux_lemma =>
                    obtain ⟨s1, hs1, z2, hz2, z3, hz3, e57⟩ := hdp 14 57 _ (by kernel_rfl) (by kernel_rfl) rfl
                    have E57 := Eq.symm e57
                    have d57 := slot_of E57
                    clear e57
                    exact gen_alloc (p := (fun vs => ∃ s1 : List UInt8, (s1.length ≤ 100) ∧ ∃ z2 : Int, (2 ≤ z2 ∧ z2 ≤ 9) ∧ ∃ z3 : Int, (2 ≤ z3 ∧ z3 ≤ 14) ∧ ([.string ⟨s1.toArray⟩, .int .i64 z2, .int .i64 z3] : List Value) = vs)) #[.string ⟨s1.toArray⟩, .int .i64 z2, .int .i64 z3] 182 (bs_api_Area_tasiiz _ (fun _ => rfl) _ _ _ _ _ _ rfl E57) ⟨s1, hs1, z2, hz2, z3, hz3, rfl⟩ hst hK
                · intro w8 hk8 hst8
                  rintro _ rfl _ - _ - _ - _ rfl _ - _ - _ - _ - _ - _ - _ - _ - _ - _ - _ ⟨g58, _, rfl, ⟨s1, hs1, z2, hz2, z3, hz3, rfl⟩, hgb58, hgl58, hgc58⟩
                  simp only [ForVals, Act.put, List.setIfInBounds_toArray, List.set_cons_zero, List.set_cons_succ, List.drop_succ_cons, List.drop_zero]
                  have kd : Keeps S w4 w8 := Keeps.trans (by exact Keeps.of_below (ext_drew (Below.refl _ _))) hk8
                  have HP8 := Lib.hid (HP4.out.keeps kd)
                  have HO8 := Lib.hid (HO4.out.keeps hlt kd)
                  have HK8 := Lib.hid (HK4.out.trans kd)
                  have HS8 := Lib.hid hst8
                  have hown := HO8.out.own r hr
                  have hfew := HO8.out.few r hr
                  have hcap := (HO8.out.cap r hr).symm
                  rw [HCE.out] at hown hfew hcap
                  simp only at hown hfew hcap
                  subst hcap
                  have hAF : Hid (AreaFine ⟨s1, z2, z3⟩) := ⟨hs1, by show (-4000000000000 : Int) ≤ z2; omega, by show z2 ≤ (4000000000000 : Int); omega, by show (-4000000000000 : Int) ≤ z3; omega, by show z3 ≤ (4000000000000 : Int); omega⟩
                  have hoS : w.heap.size ≤ w8.heap.size := HK8.out.size
                  have hl8 := HS8.out.lt
                  clear hk8 hst8 kd
                  obtain ⟨i0, hi, hz0, hz1, hz2⟩ := info_parts Tryz.infoArea
                  have hnews : ∀ (j : Nat) u, ([.string ⟨s1.toArray⟩, .int .i64 z2, .int .i64 z3] : List Value)[j]? = some u → w8.cell? ((⟨g58, 0, none⟩ : Addr).add j) = some u := fun j u hj => by rw [addr_add0]; exact hgc58 j u hj
                  go_wp2_with (at_builtin; refine wpList_append_own_at _ rfl (.tmp 47) (.tmp 58) 177 rfl w.heap.size 182 i0 (.agg #[.string ⟨#[]⟩, .int .i64 0, .int .i64 0]) 3 32 Tryz.underlying177 hi hz0 hz1 hz2 rfl (by decide) (.slice (some ⟨bs.getD r 0, 0, none⟩) an an) an _ rfl hown ⟨g58, 0, none⟩ 1 1 [.string ⟨s1.toArray⟩, .int .i64 z2, .int .i64 z3] rfl rfl hnews (by simp [Value.oneCell']) (by simp only [maxLen]; omega) (by omega) hoS ?_; intro v9 w9 hown9 hgr9 _ hat9; obtain ⟨a9, c9, rfl, m3, mf, HF⟩ := end_append HP8.out HO8.out hlt hr hAF.out HCE.out hown9 hgr9 hat9 HS8.out HK8.out; have HF := Lib.hid HF; clear hown9 hgr9 hat9 k3 kf hown HP8 HO8 HK8 HS8; simp only at m3)
                  go_ret
                  exact HF.out.mono (by simp)
                · intro w8 hk8 hst8
                  rintro _ - _ - _ - _ rfl _ - _ - _ - _ - _ - _ - _ - _ - _ - _ - _ ⟨g58, _, rfl, ⟨s1, hs1, z2, hz2, z3, hz3, rfl⟩, hgb58, hgl58, hgc58⟩
                  simp only [ForVals, Act.put, List.setIfInBounds_toArray, List.set_cons_zero, List.set_cons_succ, List.drop_succ_cons, List.drop_zero]
                  have kd : Keeps S w4 w8 := Keeps.trans (by exact Keeps.of_below (ext_drew (Below.refl _ _))) hk8
                  have HP8 := Lib.hid (HP4.out.keeps kd)
                  have HO8 := Lib.hid (HO4.out.keeps hlt kd)
                  have HK8 := Lib.hid (HK4.out.trans kd)
                  have HS8 := Lib.hid hst8
                  have hown := HO8.out.own r hr
                  have hfew := HO8.out.few r hr
                  have hcap := (HO8.out.cap r hr).symm
                  rw [HCE.out] at hown hfew hcap
                  simp only at hown hfew hcap
                  subst hcap
                  have hAF : Hid (AreaFine ⟨s1, z2, z3⟩) := ⟨hs1, by show (-4000000000000 : Int) ≤ z2; omega, by show z2 ≤ (4000000000000 : Int); omega, by show (-4000000000000 : Int) ≤ z3; omega, by show z3 ≤ (4000000000000 : Int); omega⟩
                  have hoS : w.heap.size ≤ w8.heap.size := HK8.out.size
                  have hl8 := HS8.out.lt
                  clear hk8 hst8 kd
                  obtain ⟨i0, hi, hz0, hz1, hz2⟩ := info_parts Tryz.infoArea
                  have hnews : ∀ (j : Nat) u, ([.string ⟨s1.toArray⟩, .int .i64 z2, .int .i64 z3] : List Value)[j]? = some u → w8.cell? ((⟨g58, 0, none⟩ : Addr).add j) = some u := fun j u hj => by rw [addr_add0]; exact hgc58 j u hj
                  go_wp2_with (at_builtin; refine wpList_append_own_at _ rfl (.tmp 47) (.tmp 58) 177 rfl w.heap.size 182 i0 (.agg #[.string ⟨#[]⟩, .int .i64 0, .int .i64 0]) 3 32 Tryz.underlying177 hi hz0 hz1 hz2 rfl (by decide) (.slice (some ⟨bs.getD r 0, 0, none⟩) an an) an _ rfl hown ⟨g58, 0, none⟩ 1 1 [.string ⟨s1.toArray⟩, .int .i64 z2, .int .i64 z3] rfl rfl hnews (by simp [Value.oneCell']) (by simp only [maxLen]; omega) (by omega) hoS ?_; intro v9 w9 hown9 hgr9 _ hat9; obtain ⟨a9, c9, rfl, m3, mf, HF⟩ := end_append HP8.out HO8.out hlt hr hAF.out HCE.out hown9 hgr9 hat9 HS8.out HK8.out; have HF := Lib.hid HF; clear hown9 hgr9 hat9 k3 kf hown HP8 HO8 HK8 HS8; simp only at m3)
                  go_ret
                  exact HF.out.mono (by simp)
            · skip
              subst kat
              as_aux_lemma =>
                go_upto_region 15 with (fail)
                refine region_all S (k + 2 + 1 + 1 + 1) 2 12 10 [.val (fun v => .pointer (some ⟨P, r * 4, none⟩) = v), .val (fun v => .pointer (some ⟨P, r * 4, none⟩) = v), .val (fun v => .pointer (some ⟨P, r * 4 + 3, none⟩) = v), .val (fun v => .slice (some ⟨bs.getD r 0, 0, none⟩) an ac = v), .val (fun v => .pointer (some ⟨P, r * 4, none⟩) = v), .val (fun v => .pointer (some ⟨P, r * 4, none⟩) = v), .val (fun v => .pointer (some ⟨P, r * 4 + 3, none⟩) = v), .val (fun v => .slice (some ⟨bs.getD r 0, 0, none⟩) an ac = v), .val (fun v => .pointer (some ⟨S, 0, none⟩) = v), .val (fun v => ∃ z1 : Int, (-1099511627776 ≤ z1 ∧ z1 ≤ 1099511627776) ∧ .int .i64 z1 = v), .val (fun v => .pointer (some ⟨S, 0, none⟩) = v), .val (fun v => ∃ z2 : Int, (-1099511627776 ≤ z2 ∧ z2 ≤ 1099511627776) ∧ .int .i64 z2 = v)] [9, 11] [some 64, some 65, some 66, some 67, some 68, some 69, some 70, some 71, some 72, some 73, some 74, some 75] (by kernel_rfl) (by kernel_rfl) (by kernel_rfl) (by kernel_rfl) (by kernel_rfl) (by kernel_rfl) rfl (by kernel_rfl) rfl rfl (by kernel_rfl) HS4.out ⟨?_, ?_, ?_, ?_, ?_, ?_, ?_, ?_, ?_, ?_, ?_, ?_, trivial⟩ ?_
                · intro a w' c hk hst hc hfr hdp K hK
                  as_aux_lemma =>
                    have E4 : a.eval (.tmp 4) = .pointer (some ⟨P, r * 4, none⟩) := fr_list hfr 4 (by kernel_rfl)
                    have d4 := slot_of E4
                    refine gen_pure (v := .pointer (some ⟨P, r * 4, none⟩)) ?_ (hK _ _ rfl (Keeps.refl _ _) hst)
                    clear hK hdp hfr
                    go_simp
                · intro a w' c hk hst hc hfr hdp K hK
                  as_aux_lemma =>
                    have E64 : a.eval (.tmp 64) = .pointer (some ⟨P, r * 4, none⟩) := Eq.symm (hdp 0 64 _ (by kernel_rfl) (by kernel_rfl) rfl)
                    have d64 := slot_of E64
                    refine gen_pure (v := .pointer (some ⟨P, r * 4, none⟩)) ?_ (hK _ _ rfl (Keeps.refl _ _) hst)
                    clear hK hdp hfr
                    go_simp
                · intro a w' c hk hst hc hfr hdp K hK
                  as_aux_lemma =>
                    have E65 : a.eval (.tmp 65) = .pointer (some ⟨P, r * 4, none⟩) := Eq.symm (hdp 1 65 _ (by kernel_rfl) (by kernel_rfl) rfl)
                    have d65 := slot_of E65
                    refine gen_pure (v := .pointer (some ⟨P, r * 4 + 3, none⟩)) ?_ (hK _ _ rfl (Keeps.refl _ _) hst)
                    clear hK hdp hfr
                    go_simp
                · intro a w' c hk hst hc hfr hdp K hK
                  as_aux_lemma =>
                    have E66 : a.eval (.tmp 66) = .pointer (some ⟨P, r * 4 + 3, none⟩) := Eq.symm (hdp 2 66 _ (by kernel_rfl) (by kernel_rfl) rfl)
                    have d66 := slot_of E66
                    have cl : w'.cell? ⟨P, r * 4 + 3, none⟩ = some (.slice (some ⟨bs.getD r 0, 0, none⟩) an ac) := (hk.cell (p := ⟨P, r * 4 + 3, none⟩) hP4 hPS).trans k3
                    refine gen_pure (v := .slice (some ⟨bs.getD r 0, 0, none⟩) an ac) ?_ (hK _ _ rfl (Keeps.refl _ _) hst)
                    clear hK hdp hfr
                    go_simp
                · intro a w' c hk hst hc hfr hdp K hK
                  as_aux_lemma =>
                    have E4 : a.eval (.tmp 4) = .pointer (some ⟨P, r * 4, none⟩) := fr_list hfr 4 (by kernel_rfl)
                    have d4 := slot_of E4
                    refine gen_pure (v := .pointer (some ⟨P, r * 4, none⟩)) ?_ (hK _ _ rfl (Keeps.refl _ _) hst)
                    clear hK hdp hfr
                    go_simp
                · intro a w' c hk hst hc hfr hdp K hK
                  as_aux_lemma =>
                    have E68 : a.eval (.tmp 68) = .pointer (some ⟨P, r * 4, none⟩) := Eq.symm (hdp 4 68 _ (by kernel_rfl) (by kernel_rfl) rfl)
                    have d68 := slot_of E68
                    refine gen_pure (v := .pointer (some ⟨P, r * 4, none⟩)) ?_ (hK _ _ rfl (Keeps.refl _ _) hst)
                    clear hK hdp hfr
                    go_simp
                · intro a w' c hk hst hc hfr hdp K hK
                  as_aux_lemma =>
                    have E69 : a.eval (.tmp 69) = .pointer (some ⟨P, r * 4, none⟩) := Eq.symm (hdp 5 69 _ (by kernel_rfl) (by kernel_rfl) rfl)
                    have d69 := slot_of E69
                    refine gen_pure (v := .pointer (some ⟨P, r * 4 + 3, none⟩)) ?_ (hK _ _ rfl (Keeps.refl _ _) hst)
                    clear hK hdp hfr
                    go_simp
                · intro a w' c hk hst hc hfr hdp K hK
                  as_aux_lemma =>
                    have E70 : a.eval (.tmp 70) = .pointer (some ⟨P, r * 4 + 3, none⟩) := Eq.symm (hdp 6 70 _ (by kernel_rfl) (by kernel_rfl) rfl)
                    have d70 := slot_of E70
                    have cl : w'.cell? ⟨P, r * 4 + 3, none⟩ = some (.slice (some ⟨bs.getD r 0, 0, none⟩) an ac) := (hk.cell (p := ⟨P, r * 4 + 3, none⟩) hP4 hPS).trans k3
                    refine gen_pure (v := .slice (some ⟨bs.getD r 0, 0, none⟩) an ac) ?_ (hK _ _ rfl (Keeps.refl _ _) hst)
                    clear hK hdp hfr
                    go_simp
                · intro a w' c hk hst hc hfr hdp K hK
                  as_aux_lemma =>
                    have E0 : a.eval (.tmp 0) = .pointer (some ⟨S, 0, none⟩) := fr_list hfr 0 (by kernel_rfl)
                    have d0 := slot_of E0
                    refine gen_pure (v := .pointer (some ⟨S, 0, none⟩)) ?_ (hK _ _ rfl (Keeps.refl _ _) hst)
                    clear hK hdp hfr
                    go_simp
                · intro a w' c hk hst hc hfr hdp K hK
                  as_aux_lemma =>
                    have E72 : a.eval (.tmp 72) = .pointer (some ⟨S, 0, none⟩) := Eq.symm (hdp 8 72 _ (by kernel_rfl) (by kernel_rfl) rfl)
                    have d72 := slot_of E72
                    have hc2 : c + 1 ≤ 2 := hc
                    refine gen_call 103 #[.pointer (some ⟨S, 0, none⟩), .int .i64 1, .int .i64 6] ?_ (odd_any S _ 1 6 w' hst (by omega) (by omega) (by omega) (by omega)) ?_
                    · clear hK hdp hfr; go_simp
                    rintro e w'' ⟨r, rfl, hr, hst2, hkp⟩
                    exact ⟨_, rfl, hK _ _ ⟨r, hr, rfl⟩ hkp (hst2.mono (by simp; omega))⟩
                · intro a w' c hk hst hc hfr hdp K hK
                  as_aux_lemma =>
                    have E0 : a.eval (.tmp 0) = .pointer (some ⟨S, 0, none⟩) := fr_list hfr 0 (by kernel_rfl)
                    have d0 := slot_of E0
                    refine gen_pure (v := .pointer (some ⟨S, 0, none⟩)) ?_ (hK _ _ rfl (Keeps.refl _ _) hst)
                    clear hK hdp hfr
                    go_simp
                · intro a w' c hk hst hc hfr hdp K hK
                  as_aux_lemma =>
                    have E74 : a.eval (.tmp 74) = .pointer (some ⟨S, 0, none⟩) := Eq.symm (hdp 10 74 _ (by kernel_rfl) (by kernel_rfl) rfl)
                    have d74 := slot_of E74
                    have hc2 : c + 1 ≤ 2 := hc
                    refine gen_call 103 #[.pointer (some ⟨S, 0, none⟩), .int .i64 3, .int .i64 14] ?_ (odd_any S _ 3 14 w' hst (by omega) (by omega) (by omega) (by omega)) ?_
                    · clear hK hdp hfr; go_simp
                    rintro e w'' ⟨r, rfl, hr, hst2, hkp⟩
                    exact ⟨_, rfl, hK _ _ ⟨r, hr, rfl⟩ hkp (hst2.mono (by simp; omega))⟩
                intro w8 hk8 hst8
                rintro _ - _ - _ - _ rfl _ - _ - _ - _ rfl _ - _ ⟨z1, hz1, rfl⟩ _ - _ ⟨z2, hz2, rfl⟩
                simp only [ForVals, Act.put, List.setIfInBounds_toArray, List.set_cons_zero, List.set_cons_succ, List.drop_succ_cons, List.drop_zero]
                have kd : Keeps S w4 w8 := Keeps.trans (by exact Keeps.of_below (ext_drew (Below.refl _ _))) hk8
                have HP8 := Lib.hid (HP4.out.keeps kd)
                have HK8 := Lib.hid (HK4.out.trans kd)
                have hR := HP8.out.each r hr
                have h1an := hR.some
                have hrow := hR.fine.row
                have hnew := hR.new
                have hbl := hR.lt
                have hfz := hR.fro
                have hbS := hR.off
                rw [HCE.out] at hrow h1an
                simp only at hrow h1an
                have hz8 := HK8.out.size
                have HF : Hid (PlanPost S (k + 20) w (.returned (.slice (some ⟨P, 0, none⟩) 3 3)) ((w8.setCell ⟨bs.getD r 0, 1, none⟩ (.int .i64 z1)).setCell ⟨bs.getD r 0, 2, none⟩ (.int .i64 z2))) := (end_low HP8.out HO4.out.alone hr (by omega) (by omega) (by omega) (by omega)).post ((hst8.upto (((Below.refl (S + 1) w8).setCell (by show S + 1 ≤ bs.getD r 0; omega) _).setCell (by show S + 1 ≤ bs.getD r 0; omega) _)).mono (by simp)) ((HK8.out.setCell_new hnew _).setCell_new hnew _)
                obtain ⟨c1, c2⟩ : w8.cell? ⟨bs.getD r 0, 1, none⟩ = some (.int .i64 (areas.getD 0 noArea).low) ∧ w8.cell? ⟨bs.getD r 0, 2, none⟩ = some (.int .i64 (areas.getD 0 noArea).high) := by
                  rcases hrow.row with h | ⟨b9, off, ha, hl, hc⟩
                  · omega
                  · injection ha with ha
                    injection ha with e1 e2
                    subst e1 e2
                    exact ⟨hc 0 (by omega) 1 (by omega), hc 0 (by omega) 2 (by omega)⟩
                clear hR hrow hk8 hst8 kd HP8 HK8 HP4 HO4 k0 k1 k2 k3 kf
                generalize bs.getD r 0 = B at *
                go_wp2_with fail
                go_ret
                exact HF.out
            · have HRV : Hid (Calls Tryz.prog 104 #[.slice (some ⟨P, 0, none⟩) 3 3] w4 fun e w' => e = .returned (.tuple #[]) ∧ PlanPost S (k + 20) w (.returned (.slice (some ⟨P, 0, none⟩) 3 3)) w') := by
                have hA := HP4.out
                have hnew := hA.new
                refine (reverse3 w4 P (l.getD 0 noCtry) (l.getD 1 noCtry) (l.getD 2 noCtry) hP4 (fun j hj => ?_) hA.fro).mono ?_
                · match j, hj with
                  | 0, _ => exact (hA.each 0 (by omega)).cells 0 (by omega)
                  | 1, _ => exact (hA.each 0 (by omega)).cells 1 (by omega)
                  | 2, _ => exact (hA.each 0 (by omega)).cells 2 (by omega)
                  | 3, _ => exact (hA.each 0 (by omega)).cells 3 (by omega)
                  | 4, _ => exact (hA.each 1 (by omega)).cells 0 (by omega)
                  | 5, _ => exact (hA.each 1 (by omega)).cells 1 (by omega)
                  | 6, _ => exact (hA.each 1 (by omega)).cells 2 (by omega)
                  | 7, _ => exact (hA.each 1 (by omega)).cells 3 (by omega)
                  | 8, _ => exact (hA.each 2 (by omega)).cells 0 (by omega)
                  | 9, _ => exact (hA.each 2 (by omega)).cells 1 (by omega)
                  | 10, _ => exact (hA.each 2 (by omega)).cells 2 (by omega)
                  | 11, _ => exact (hA.each 2 (by omega)).cells 3 (by omega)
                rintro e w5 ⟨rfl, hcl, hkr⟩
                have hsz := hkr.size
                have hb5 : Below P w4 w5 := hkr.below (by omega) (Nat.le_refl _)
                have hfin : ∀ i, i < 3 → CtryFine w5 (l.getD i noCtry) := fun i hi => by
                  have hi' := hA.each i hi
                  refine ⟨hi'.fine.code, hi'.fine.abroad, hi'.fine.trunk, hi'.fine.many, ?_, hi'.fine.each⟩
                  have := hi'.fine.row
                  rw [hi'.at_] at this ⊢
                  refine ⟨this.len, this.row.imp id ?_⟩
                  rintro ⟨b9, off, ha, hl, hcc⟩
                  injection ha with ha
                  injection ha with e1 e2
                  subst e1 e2
                  exact ⟨_, 0, rfl, Nat.lt_of_lt_of_le hl hsz, fun q hq j hj => (World.cell?_of_block (w := w4) (hkr.block _ hi'.lt hi'.offP)).trans (hcc q hq j hj)⟩
                refine ⟨rfl, PlanEnd.post (l := [l.getD 2 noCtry, l.getD 1 noCtry, l.getD 0 noCtry]) ⟨rfl, fun i hi => ?_, hPS, by omega⟩ ((HS4.out.upto (hb5.mono (by omega))).mono (by omega)) ?_⟩
                · match i, hi with
                  | 0, _ => exact ⟨fun j hj => by match j, hj with | 0, _ => exact hcl 0 (by omega) | 1, _ => exact hcl 1 (by omega) | 2, _ => exact hcl 2 (by omega) | 3, _ => exact hcl 3 (by omega), hfin 2 (by omega), (hA.each 2 (by omega)).some, _, (hA.each 2 (by omega)).at_, (hA.each 2 (by omega)).off⟩
                  | 1, _ => exact ⟨fun j hj => by match j, hj with | 0, _ => exact hcl 4 (by omega) | 1, _ => exact hcl 5 (by omega) | 2, _ => exact hcl 6 (by omega) | 3, _ => exact hcl 7 (by omega), hfin 1 (by omega), (hA.each 1 (by omega)).some, _, (hA.each 1 (by omega)).at_, (hA.each 1 (by omega)).off⟩
                  | 2, _ => exact ⟨fun j hj => by match j, hj with | 0, _ => exact hcl 8 (by omega) | 1, _ => exact hcl 9 (by omega) | 2, _ => exact hcl 10 (by omega) | 3, _ => exact hcl 11 (by omega), hfin 0 (by omega), (hA.each 0 (by omega)).some, _, (hA.each 0 (by omega)).at_, (hA.each 0 (by omega)).off⟩
                · have hkk := HK4.out
                  exact ⟨hkr.os.trans hkk.os, hkr.tape.trans hkk.tape, hkr.output.trans hkk.output, by have := hkk.size; omega, fun q hq hn => (hkr.block q (by have := hkk.size; omega) (by omega)).trans (hkk.block q hq hn)⟩
              clear k0 k1 k2 k3 kf HP4 HO4
              as_aux_lemma =>
                go_wp2_with fail
                refine HRV.out.mono ?_
                rintro e w5 ⟨rfl, HF⟩
                have HF := Lib.hid HF
                go_wp2_with fail
                go_ret
                exact HF.out
end Go.Proofs.YtbbbaeenngjldaaGreatDoor

set_option linter.unusedVariables false
set_option linter.unusedSimpArgs false
namespace Go.Proofs.YtbbbaeenngjldaaGreatDoor
open Go.RowKit

theorem none_pred (w : World) : PredBelow Tryz.prog 106 #[] (fun x => .agg (Ctry.cells x).toArray) (fun x => x.an == 0) w := fun W x hb => by
  obtain ⟨code2, abroad, trunk, aa, an, ac, areas⟩ := x
  show Calls Tryz.prog 106 #[.agg #[.string ⟨code2.toArray⟩, .string ⟨abroad.toArray⟩, .string ⟨trunk.toArray⟩, .slice aa an ac]] W _
  simp only
  have HB := Lib.hid hb
  clear hb
  go_enter Tryz.func106, Tryz.ntmps106
  go_wp2_with fail
  go_ret
  exact ⟨congrArg (fun b => Ending.returned (.bool b)) (by rcases an with _ | n <;> rfl), HB.out.trans ((ext_alloc (Below.refl _ _)).mono HB.out.size)⟩

theorem area_at {w : World} {a : Option Addr} {n : Nat} {l : List Area} (h : AreaRow w a n l) (hn : 1 ≤ n) : ∃ b off, a = some ⟨b, off, none⟩ ∧ b < w.heap.size ∧ ∀ i, i < n → ∀ j, j < 3 → w.cell? ⟨b, off + i * 3 + j, none⟩ = (l.getD i noArea).cells[j]? := by
  rcases h.row with h | h
  · omega
  · exact h
theorem ctry_at {w : World} {a : Option Addr} {n : Nat} {l : List Ctry} (h : CtryRow w a n l) (hn : 1 ≤ n) : ∃ b off, a = some ⟨b, off, none⟩ ∧ b < w.heap.size ∧ ∀ i, i < n → ∀ j, j < 4 → w.cell? ⟨b, off + i * 4 + j, none⟩ = (l.getD i noCtry).cells[j]? := by
  rcases h.row with h | h
  · omega
  · exact h

/-- A country of a plan, in a box of its own. -/
structure CtryBox (S k : Nat) (w0 w : World) (C : Nat) (c : Ctry) : Prop where
  cells : ∀ j, j < 4 → w.cell? ⟨C, j, none⟩ = c.cells[j]?
  Cl : C < w.heap.size
  CS : C ≠ S
  stream : StreamOk w S k
  keeps : Keeps S w0 w
  rowAt : ∀ {w9 : World}, Keeps S w w9 → AreaRow w9 c.aa c.an c.areas
  fineAt : ∀ z, z < c.an → AreaFine (c.areas.getD z noArea)
  code : c.code.length ≤ 100
  many : 1 ≤ c.an ∧ c.an ≤ 1000
theorem CtryBox.kept {S k k' : Nat} {w0 w w' : World} {C : Nat} {c : Ctry} (h : CtryBox S k w0 w C c) (hk : Keeps S w w') (hs : StreamOk w' S k') : CtryBox S k' w0 w' C c :=
  ⟨fun j hj => (hk.cell (p := ⟨C, j, none⟩) h.Cl h.CS).trans (h.cells j hj), Nat.lt_of_lt_of_le h.Cl hk.size, h.CS, hs, h.keeps.trans hk, fun h9 => h.rowAt (hk.trans h9), h.fineAt, h.code, h.many⟩
structure AreaBox (S k : Nat) (w0 w : World) (C D : Nat) (c : Ctry) (x : Area) : Prop where
  box : CtryBox S k w0 w C c
  cells : ∀ j, j < 3 → w.cell? ⟨D, j, none⟩ = x.cells[j]?
  Dl : D < w.heap.size
  DS : D ≠ S
  fine : AreaFine x
theorem AreaBox.stream {S k : Nat} {w0 w : World} {C D : Nat} {c : Ctry} {x : Area} (h : AreaBox S k w0 w C D c x) : StreamOk w S k := h.box.stream

theorem area_box_made {S k : Nat} {w0 wc w8 : World} {C D : Nat} {c : Ctry} {x : Area} (hx : CtryBox S k w0 wc C c) (hk : Keeps S wc w8) (hst : StreamOk w8 S (k + 1)) (hD : wc.heap.size ≤ D) (hb : w8.heap[D]? = some (.cells #[.string ⟨#[]⟩, .int .i64 0, .int .i64 0] 182)) (hf : AreaFine x) (hS : S < wc.heap.size) :
    AreaBox S (k + 1) w0 (((w8.setCell ⟨D, 0, none⟩ (.string ⟨x.pre.toArray⟩)).setCell ⟨D, 1, none⟩ (.int .i64 x.low)).setCell ⟨D, 2, none⟩ (.int .i64 x.high)) C D c x := by
  have Dl : D < w8.heap.size := (Array.getElem?_eq_some_iff.1 hb).1
  have q0 := (block_cell hb 0).trans (show _ = some (.string ⟨#[]⟩) from rfl)
  have q1 := (block_cell hb 1).trans (show _ = some (.int .i64 0) from rfl)
  have q2 := (block_cell hb 2).trans (show _ = some (.int .i64 0) from rfl)
  have hkk := ((hk.setCell_new (p := ⟨D, 0, none⟩) hD (.string ⟨x.pre.toArray⟩)).setCell_new (p := ⟨D, 1, none⟩) hD (.int .i64 x.low)).setCell_new (p := ⟨D, 2, none⟩) hD (.int .i64 x.high)
  refine ⟨hx.kept hkk (hst.upto ((((Below.refl (S + 1) w8).setCell (by show S + 1 ≤ D; omega) _).setCell (by show S + 1 ≤ D; omega) _).setCell (by show S + 1 ≤ D; omega) _)), fun j hj => ?_, by simpa using Dl, by omega, hf⟩
  obtain ⟨xp, xl, xh⟩ := x
  match j, hj with
  | 0, _ => exact (World.cell?_setCell_other _ _ _ _ (by simp)).trans ((World.cell?_setCell_other _ _ _ _ (by simp)).trans (World.cell?_setCell_same _ _ _ q0))
  | 1, _ => exact (World.cell?_setCell_other _ _ _ _ (by simp)).trans (World.cell?_setCell_same _ _ _ ((World.cell?_setCell_other _ _ _ _ (by simp)).trans q1))
  | 2, _ => exact World.cell?_setCell_same _ _ _ ((World.cell?_setCell_other _ _ _ _ (by simp)).trans ((World.cell?_setCell_other _ _ _ _ (by simp)).trans q2))

theorem bs_int_ci7 (e : Operand → Value) (he : ∀ v, e (.const v) = v) (o : Oper) (w : World)  (z0 : Int) (z1 : Int) (z2 : Int) (z3 : Int) (z4 : Int) (z5 : Int) (z6 : Int) (ho : o.op = .buildSlice 22 7 #[(0, .const (.int .i64 z0)), (1, .const (.int .i64 z1)), (2, .const (.int .i64 z2)), (3, .const (.int .i64 z3)), (4, .const (.int .i64 z4)), (5, .const (.int .i64 z5)), (6, .const (.int .i64 z6))])  :
   (execOp e o).run Tryz.prog w = .ok (.value (.slice (some ⟨w.heap.size, 0, none⟩) 7 7)) (w.alloc (.cells #[.int .i64 z0, .int .i64 z1, .int .i64 z2, .int .i64 z3, .int .i64 z4, .int .i64 z5, .int .i64 z6] 3)) := by
  unfold execOp
  rw [ho]
  simp only [List.map_toArray, List.map_cons, List.map_nil, he]
  kernel_rfl
set_option maxRecDepth 100000 in
set_option maxHeartbeats 8000000 in
theorem number_any (S k : Nat) (w : World) (a : Option Addr) (n cap : Nat) (l : List Ctry) (h : StreamOk w S k) (hk : k ≤ 10000000) (hrow : ∀ w9, Keeps S w w9 → CtryRow w9 a n l) (hcap : n ≤ cap) (h1 : 1 ≤ n) (hna : ∀ i, i < l.length → 1 ≤ (l.getD i noCtry).an) :
    Calls Tryz.prog 11 #[.pointer (some ⟨S, 0, none⟩), .slice a n cap] w (SomePost S (k + 4000) (fun s => s.length ≤ 300) w) := by
  have HS := Lib.hid h
  have HR := Lib.hid hrow
  have HNA := Lib.hid hna
  have hlt := h.lt
  obtain ⟨b, off, rfl, hb, hcell⟩ := ctry_at (hrow w (Keeps.refl _ _)) h1
  have HLEN := Lib.hid (hrow w (Keeps.refl _ _)).len
  have hfew := (hrow w (Keeps.refl _ _)).few
  clear h hrow hna hcell
  obtain ⟨m, rfl⟩ : ∃ m, n = m + 1 := ⟨n - 1, by omega⟩
  go_enter Tryz.func11, Tryz.ntmps11
  go_wp2_with fail
  refine (flip_any S k 6 _ HS.out (by omega) (by decide) (by decide)).mono ?_
  rintro e w1 ⟨fl, rfl, hst1, hk1⟩
  have HS1 := Lib.hid hst1
  have HK1 := Lib.hid hk1
  clear hst1 hk1
  cases fl
  · have HC : Hid (Calls Tryz.prog 105 #[.slice (some ⟨b, off, none⟩) (m + 1) cap, .func (.func 106) #[] #[]] w1 fun e w' => e = .returned (.bool false) ∧ Below w1.heap.size w1 w') := by
      have hr1 := HR.out w1 HK1.out
      have hany : (l.take (m + 1)).any (fun x => x.an == 0) = false := by
        rw [List.any_eq_false]
        intro x hx
        obtain ⟨i, hi, rfl⟩ := List.getElem_of_mem (List.mem_of_mem_take hx)
        have := HNA.out i hi
        rw [show l.getD i noCtry = l[i] by simp [hi]] at this
        simp; omega
      obtain ⟨b9, off9, ha9, hb9, hc9⟩ := ctry_at hr1 h1
      injection ha9 with ha9
      injection ha9 with e1 e2
      subst e1 e2
      refine (Tryz.slices_hasC Ctry.cells (fun x => rfl) (fun x => x.an == 0) 106 #[] (fun args w => rfl) b off (m + 1) cap l w1 (none_pred w1) (by have := HLEN.out; omega) (by omega) hb9 (fun j hj i v hv => ?_)).mono ?_
      · have hi : i < 4 := by have := (List.getElem?_eq_some_iff.1 hv).1; simpa [Ctry.cells] using this
        rw [hc9 j (by have := HLEN.out; omega) i hi, show l.getD j noCtry = l[j]! by simp [hj]]
        exact hv
      · rintro e w' ⟨rfl, hb'⟩
        exact ⟨by rw [hany], hb'⟩
    as_aux_lemma =>
      go_wp2_with fail
      refine HC.out.mono ?_
      rintro e w2 ⟨rfl, hb2⟩
      have HK2 := Lib.hid (HK1.out.trans (Keeps.of_below hb2))
      have HS2 := Lib.hid (HS1.out.below hb2)
      clear hb2 HS1 HK1 HC
      as_aux_lemma =>
        go_upto_region 3 with (fail)
        go_cut [5] (fun s5 wx => ∃ (c : Ctry) (C : Nat), s5 = .pointer (some ⟨C, 0, none⟩) ∧ Hid (CtryBox S (k + 2) w wx C c))
        case first =>
          go_wp2_with fail
          refine (next_any S (k + 1) ((m : Int) + 1) _ HS2.out (by omega) (by omega) (by omega)).mono ?_
          rintro e w3 ⟨r, rfl, r0, r1, hst3, hk3⟩
          obtain ⟨r, rfl⟩ := Int.eq_ofNat_of_zero_le r0
          have hr : r < m + 1 := by omega
          have HK3 := Lib.hid (HK2.out.trans hk3)
          have HS3 := Lib.hid hst3
          have hl3 := hst3.lt
          have hr3 := HR.out w3 HK3.out
          obtain ⟨b9, off9, ha9, hb9, hc9⟩ := ctry_at hr3 h1
          injection ha9 with ha9
          injection ha9 with e1 e2
          subst e1 e2
          have k0 := hc9 r hr 0 (by omega)
          have k1 := hc9 r hr 1 (by omega)
          have k2 := hc9 r hr 2 (by omega)
          have k3 := hc9 r hr 3 (by omega)
          have HFI := Lib.hid (hr3.each r (by have := HLEN.out; omega))
          have HSM := Lib.hid (HNA.out r (by have := HLEN.out; omega))
          have HAT : Hid (∀ w9, Keeps S w3 w9 → AreaRow w9 (l.getD r noCtry).aa (l.getD r noCtry).an (l.getD r noCtry).areas) := fun w9 h9 => ((HR.out w9 (HK3.out.trans h9)).each r (by have := HLEN.out; omega)).row
          clear hst3 hk3 hc9 hr3 HR HNA HK2 HS2 r0 r1
          generalize l.getD r noCtry = c at k0 k1 k2 k3 HFI HSM HAT
          obtain ⟨code, abroad, trunk, aa, an, ac, areas⟩ := c
          simp only [Ctry.cells, List.getElem?_cons_zero, List.getElem?_cons_succ, Nat.add_zero] at k0 k1 k2 k3
          have HEND : Hid (CtryBox S (k + 2) w (w3.alloc (.cells #[.string ⟨code.toArray⟩, .string ⟨abroad.toArray⟩, .string ⟨trunk.toArray⟩, .slice aa an ac] 179)) w3.heap.size ⟨code, abroad, trunk, aa, an, ac, areas⟩) := by
            refine ⟨fun j hj => ?_, by simp, by omega, HS3.out.below (ext_alloc (Below.refl _ _)), HK3.out.alloc _, fun h9 => HAT.out _ (Keeps.trans ((Keeps.refl S w3).alloc _) h9), fun z hz => HFI.out.each z (by have := HFI.out.row.len; omega), HFI.out.code, HSM.out, HFI.out.many⟩
            match j, hj with
            | 0, _ | 1, _ | 2, _ | 3, _ => simp [Ctry.cells]
          clear HFI HSM HAT HS3 HK3
          go_wp2_with fail
          go_meet
          exact ⟨_, _, rfl, HEND.out⟩
        case rest =>
          obtain ⟨⟨code, abroad, trunk, aa, an, ac, areas⟩, C, rfl, HX⟩ := hcut
          have c3 := HX.out.cells 3 (by omega)
          have c0 := HX.out.cells 0 (by omega)
          simp only [Ctry.cells, List.getElem?_cons_zero, List.getElem?_cons_succ] at c3 c0
          have Cl := HX.out.Cl
          have CS := HX.out.CS
          obtain ⟨h1an, han⟩ := HX.out.many
          have hSc := HX.out.stream.lt
          have hcode : code.length ≤ 100 := HX.out.code
          simp only at h1an han
          clear HS2 HK2 HR HNA HS HLEN
          as_aux_lemma =>
            go_upto_region 4 with (fail)
            go_cut [6] (fun s6 wx => ∃ (x : Area) (D : Nat), s6 = .pointer (some ⟨D, 0, none⟩) ∧ Hid (AreaBox S (k + 3) w wx C D ⟨code, abroad, trunk, aa, an, ac, areas⟩ x))
            case first =>
              refine region_all S (k + 2) 1 10 0 [.val (fun v => .pointer (some ⟨C, 3, none⟩) = v), .val (fun v => .slice aa an ac = v), .val (fun v => .pointer (some ⟨S, 0, none⟩) = v), .val (fun v => .pointer (some ⟨C, 3, none⟩) = v), .val (fun v => .slice aa an ac = v), .val (fun v => .int .i64 an = v), .val (fun v => ∃ z : Nat, (z < an) ∧ .int .i64 (z : Nat) = v), .val (fun v => ∃ z : Nat, (z < an) ∧ ∃ ab : Nat, (True) ∧ ∃ ao : Nat, (aa = some ⟨ab, ao, none⟩) ∧ .pointer (some ⟨ab, ao + z * 3, none⟩) = v), .val (fun v => ∃ x : Area, (AreaFine x) ∧ .agg #[.string ⟨x.pre.toArray⟩, .int .i64 x.low, .int .i64 x.high] = v), .mem (fun (w9 : World) (v : Value) => ∃ b, v = .pointer (some ⟨b, 0, none⟩) ∧ wc.heap.size ≤ b ∧ w9.heap[b]? = some (.cells #[.string ⟨#[]⟩, .int .i64 0, .int .i64 0] 182))] [6] [some 28, some 29, some 30, some 31, some 32, some 33, some 34, some 35, some 36, some 6] (by kernel_rfl) (by kernel_rfl) (by kernel_rfl) (by kernel_rfl) (by kernel_rfl) (by kernel_rfl) rfl (by kernel_rfl) rfl rfl (by kernel_rfl) HX.out.stream ⟨?_, ?_, ?_, ?_, ?_, ?_, ?_, ?_, ?_, ?_, trivial⟩ ?_
              · intro a w' c hk hst hc hfr hdp K hK
                as_aux_lemma =>
                  have E5 : a.eval (.tmp 5) = .pointer (some ⟨C, 0, none⟩) := fr_list hfr 5 (by kernel_rfl)
                  have d5 := slot_of E5
                  refine gen_pure (v := .pointer (some ⟨C, 3, none⟩)) ?_ (hK _ _ rfl (Keeps.refl _ _) hst)
                  clear hK hdp hfr
                  go_simp
              · intro a w' c hk hst hc hfr hdp K hK
                as_aux_lemma =>
                  have E28 : a.eval (.tmp 28) = .pointer (some ⟨C, 3, none⟩) := Eq.symm (hdp 0 28 _ (by kernel_rfl) (by kernel_rfl) rfl)
                  have d28 := slot_of E28
                  have cl : w'.cell? ⟨C, 3, none⟩ = some (.slice aa an ac) := (hk.cell (p := ⟨C, 3, none⟩) Cl CS).trans c3
                  refine gen_pure (v := .slice aa an ac) ?_ (hK _ _ rfl (Keeps.refl _ _) hst)
                  clear hK hdp hfr
                  go_simp
              · intro a w' c hk hst hc hfr hdp K hK
                as_aux_lemma =>
                  have E0 : a.eval (.tmp 0) = .pointer (some ⟨S, 0, none⟩) := fr_list hfr 0 (by kernel_rfl)
                  have d0 := slot_of E0
                  refine gen_pure (v := .pointer (some ⟨S, 0, none⟩)) ?_ (hK _ _ rfl (Keeps.refl _ _) hst)
                  clear hK hdp hfr
                  go_simp
              · intro a w' c hk hst hc hfr hdp K hK
                as_aux_lemma =>
                  have E5 : a.eval (.tmp 5) = .pointer (some ⟨C, 0, none⟩) := fr_list hfr 5 (by kernel_rfl)
                  have d5 := slot_of E5
                  refine gen_pure (v := .pointer (some ⟨C, 3, none⟩)) ?_ (hK _ _ rfl (Keeps.refl _ _) hst)
                  clear hK hdp hfr
                  go_simp
              · intro a w' c hk hst hc hfr hdp K hK
                as_aux_lemma =>
                  have E31 : a.eval (.tmp 31) = .pointer (some ⟨C, 3, none⟩) := Eq.symm (hdp 3 31 _ (by kernel_rfl) (by kernel_rfl) rfl)
                  have d31 := slot_of E31
                  have cl : w'.cell? ⟨C, 3, none⟩ = some (.slice aa an ac) := (hk.cell (p := ⟨C, 3, none⟩) Cl CS).trans c3
                  refine gen_pure (v := .slice aa an ac) ?_ (hK _ _ rfl (Keeps.refl _ _) hst)
                  clear hK hdp hfr
                  go_simp
              · intro a w' c hk hst hc hfr hdp K hK
                as_aux_lemma =>
                  have E32 : a.eval (.tmp 32) = .slice aa an ac := Eq.symm (hdp 4 32 _ (by kernel_rfl) (by kernel_rfl) rfl)
                  have d32 := slot_of E32
                  refine gen_pure (v := .int .i64 an) ?_ (hK _ _ rfl (Keeps.refl _ _) hst)
                  clear hK hdp hfr
                  go_simp
              · intro a w' c hk hst hc hfr hdp K hK
                as_aux_lemma =>
                  have E30 : a.eval (.tmp 30) = .pointer (some ⟨S, 0, none⟩) := Eq.symm (hdp 2 30 _ (by kernel_rfl) (by kernel_rfl) rfl)
                  have d30 := slot_of E30
                  have E33 : a.eval (.tmp 33) = .int .i64 an := Eq.symm (hdp 5 33 _ (by kernel_rfl) (by kernel_rfl) rfl)
                  have d33 := slot_of E33
                  have hc2 : c + 1 ≤ 1 := hc
                  refine gen_call 102 #[.pointer (some ⟨S, 0, none⟩), .int .i64 an] ?_ (next_any S _ an w' hst (by omega) (by omega) (by omega)) ?_
                  · clear hK hdp hfr; go_simp
                  rintro e w'' ⟨r, rfl, r0, r1, hst2, hkp⟩
                  obtain ⟨r, rfl⟩ := Int.eq_ofNat_of_zero_le r0
                  exact ⟨_, rfl, hK _ _ ⟨r, by omega, rfl⟩ hkp (hst2.mono (by simp; omega))⟩
              · intro a w' c hk hst hc hfr hdp K hK
                as_aux_lemma =>
                  have E29 : a.eval (.tmp 29) = .slice aa an ac := Eq.symm (hdp 1 29 _ (by kernel_rfl) (by kernel_rfl) rfl)
                  have d29 := slot_of E29
                  obtain ⟨z, hz, e34⟩ := hdp 6 34 _ (by kernel_rfl) (by kernel_rfl) rfl
                  have E34 := Eq.symm e34
                  have d34 := slot_of E34
                  clear e34
                  obtain ⟨ab, ao, rfl, hal, hac⟩ := area_at (HX.out.rowAt (Keeps.trans (by exact Keeps.of_below (ext_drew (Below.refl _ _))) hk)) h1an
                  refine gen_pure (v := .pointer (some ⟨ab, ao + z * 3, none⟩)) ?_ (hK _ _ ⟨z, hz, ab, trivial, ao, rfl, rfl⟩ (Keeps.refl _ _) hst)
                  clear hK hdp hfr hac
                  go_simp
              · intro a w' c hk hst hc hfr hdp K hK
                as_aux_lemma =>
                  obtain ⟨z, hz, ab, hab, ao, hao, e35⟩ := hdp 7 35 _ (by kernel_rfl) (by kernel_rfl) rfl
                  have E35 := Eq.symm e35
                  have d35 := slot_of E35
                  clear e35
                  subst hao
                  obtain ⟨ab9, ao9, ha9, hal, hac⟩ := area_at (HX.out.rowAt (Keeps.trans (by exact Keeps.of_below (ext_drew (Below.refl _ _))) hk)) h1an
                  injection ha9 with ha9
                  injection ha9 with ha1 ha2
                  subst ha1 ha2
                  have q0 := hac z hz 0 (by omega)
                  have q1 := hac z hz 1 (by omega)
                  have q2 := hac z hz 2 (by omega)
                  have hfine := HX.out.fineAt z hz
                  generalize areas.getD z noArea = x at q0 q1 q2 hfine
                  obtain ⟨xp, xl, xh⟩ := x
                  simp only [Area.cells, List.getElem?_cons_zero, List.getElem?_cons_succ, Nat.add_zero] at q0 q1 q2
                  refine gen_pure (v := .agg #[.string ⟨xp.toArray⟩, .int .i64 xl, .int .i64 xh]) ?_ (hK _ _ ⟨⟨xp, xl, xh⟩, hfine, rfl⟩ (Keeps.refl _ _) hst)
                  clear hK hdp hfr hac hfine
                  go_simp
              · intro a w' c hk hst hc hfr hdp K hK
                as_aux_lemma =>
                  refine gen_box (p := (fun (w9 : World) (v : Value) => ∃ b, v = .pointer (some ⟨b, 0, none⟩) ∧ wc.heap.size ≤ b ∧ w9.heap[b]? = some (.cells #[.string ⟨#[]⟩, .int .i64 0, .int .i64 0] 182))) #[.string ⟨#[]⟩, .int .i64 0, .int .i64 0] 182 ?_ (fun w9 hk9 => ⟨w'.heap.size, rfl, (by have := hk.size; simp at this ⊢; omega), (hk9.block w'.heap.size (by simp) (Nat.ne_of_gt hst.lt)).trans (heap_alloc_new _ _)⟩) hst hK
                  clear hK hdp hfr
                  go_simp
              intro w8 hk8 hst8
              rintro _ - _ - _ - _ - _ - _ - _ - _ - _ ⟨x, hx, rfl⟩ x6 p6
              simp only [ForVals, Act.put, List.setIfInBounds_toArray, List.set_cons_zero, List.set_cons_succ, List.drop_succ_cons, List.drop_zero]
              obtain ⟨D, rfl, hD, hb8⟩ := p6 w8 (Keeps.refl _ _)
              have kd : Keeps S wc w8 := Keeps.trans (by exact Keeps.of_below (ext_drew (Below.refl _ _))) hk8
              have HEND := Lib.hid (area_box_made HX.out kd (hst8.mono (by simp)) hD hb8 hx hSc)
              have q0 := (block_cell hb8 0).trans (show _ = some (.string ⟨#[]⟩) from rfl)
              have q1 := (block_cell hb8 1).trans (show _ = some (.int .i64 0) from rfl)
              have q2 := (block_cell hb8 2).trans (show _ = some (.int .i64 0) from rfl)
              have r0 := block_fro hb8 0
              have r1 := block_fro hb8 1
              have r2 := block_fro hb8 2
              have Dl : D < w8.heap.size := (Array.getElem?_eq_some_iff.1 hb8).1
              clear hk8 hst8 kd p6 hb8 HX c3 c0
              go_wp2_with fail
              go_meet
              exact ⟨x, D, rfl, HEND.out⟩
            case rest =>
              obtain ⟨⟨xp, xl, xh⟩, D, rfl, HY⟩ := hcut
              obtain ⟨wy, rfl⟩ : ∃ wy : World, wy = wc := ⟨_, rfl⟩
              have c0 := HY.out.box.cells 0 (by omega)
              have d0 := HY.out.cells 0 (by omega)
              have d1 := HY.out.cells 1 (by omega)
              have d2 := HY.out.cells 2 (by omega)
              simp only [Ctry.cells, Area.cells, List.getElem?_cons_zero, List.getElem?_cons_succ] at c0 d0 d1 d2
              have Cl := HY.out.box.Cl
              have CS := HY.out.box.CS
              have Dl := HY.out.Dl
              have DS := HY.out.DS
              obtain ⟨f0, f1, f2, f3, f4⟩ := HY.out.fine
              simp only at f0 f1 f2 f3 f4
              clear HX c3
              as_aux_lemma =>
                go_upto_region 5 with (fail)
                refine region_all S (k + 3) 1000 26 6 [.val (fun v => .pointer (some ⟨C, 0, none⟩) = v), .val (fun v => .string ⟨code.toArray⟩ = v), .val (fun v => ∃ s1 : List UInt8, (s1.length ≤ 101) ∧ .string ⟨s1.toArray⟩ = v), .val (fun v => .pointer (some ⟨D, 0, none⟩) = v), .val (fun v => .string ⟨xp.toArray⟩ = v), .val (fun v => ∃ s2 : List UInt8, (s2.length ≤ 201) ∧ .string ⟨s2.toArray⟩ = v), .val (fun v => .pointer (some ⟨S, 0, none⟩) = v), .val (fun v => .pointer (some ⟨S, 0, none⟩) = v), .val (fun v => .pointer (some ⟨D, 1, none⟩) = v), .val (fun v => .int .i64 xl = v), .val (fun v => ∃ z3 : Int, (-4000000000000 ≤ z3 ∧ z3 ≤ 12) ∧ .int .i64 z3 = v), .val (fun v => .pointer (some ⟨D, 2, none⟩) = v), .val (fun v => .int .i64 xh = v), .val (fun v => ∃ z4 : Int, (-4000000000000 ≤ z4 ∧ z4 ≤ 13) ∧ .int .i64 z4 = v), .val (fun v => ∃ zr : Int, (-4000000000000 ≤ zr ∧ zr ≤ 13) ∧ .int .i64 zr = v), .val (fun v => .pointer (some ⟨D, 0, none⟩) = v), .val (fun v => .string ⟨xp.toArray⟩ = v), .val (fun v => .int .i64 (xp.length : Nat) = v), .val (fun v => ∃ z5 : Int, (-5000000000000 ≤ z5 ∧ z5 ≤ 13) ∧ .int .i64 z5 = v), .val (fun v => .pointer (some ⟨S, 0, none⟩) = v), .arr 7 (· = [.int .i64 0, .int .i64 0, .int .i64 0, .int .i64 0, .int .i64 0, .int .i64 1, .int .i64 (-1)]), .val (fun v => ∃ z6 : Int, (-1 ≤ z6 ∧ z6 ≤ 1) ∧ .int .i64 z6 = v), .val (fun v => ∃ z7 : Int, (-6000000000000 ≤ z7 ∧ z7 ≤ 14) ∧ .int .i64 z7 = v), .val (fun v => ∃ zn : Nat, (zn ≤ 14) ∧ .int .i64 (zn : Nat) = v), .val (fun v => ∃ sd : List UInt8, (sd.length ≤ 14) ∧ .string ⟨sd.toArray⟩ = v), .val (fun v => ∃ s8 : List UInt8, (s8.length ≤ 300) ∧ .string ⟨s8.toArray⟩ = v)] [14, 21, 24] [some 37, some 38, some 39, some 40, some 41, some 42, some 43, some 44, some 45, some 46, some 47, some 48, some 49, some 50, some 51, some 52, some 53, some 54, some 55, some 56, some 57, some 58, some 59, some 60, some 61, some 62] (by kernel_rfl) (by kernel_rfl) (by kernel_rfl) (by kernel_rfl) (by kernel_rfl) (by kernel_rfl) rfl (by kernel_rfl) rfl rfl (by kernel_rfl) HY.out.stream ⟨?_, ?_, ?_, ?_, ?_, ?_, ?_, ?_, ?_, ?_, ?_, ?_, ?_, ?_, ?_, ?_, ?_, ?_, ?_, ?_, ?_, ?_, ?_, ?_, ?_, ?_, trivial⟩ ?_
                · intro a w' c hk hst hc hfr hdp K hK
                  as_aux_lemma =>
                    have E5 : a.eval (.tmp 5) = .pointer (some ⟨C, 0, none⟩) := fr_list hfr 5 (by kernel_rfl)
                    have d5 := slot_of E5
                    refine gen_pure (v := .pointer (some ⟨C, 0, none⟩)) ?_ (hK _ _ rfl (Keeps.refl _ _) hst)
                    clear hK hdp hfr
                    go_simp
                · intro a w' c hk hst hc hfr hdp K hK
                  as_aux_lemma =>
                    have E37 : a.eval (.tmp 37) = .pointer (some ⟨C, 0, none⟩) := Eq.symm (hdp 0 37 _ (by kernel_rfl) (by kernel_rfl) rfl)
                    have d37 := slot_of E37
                    have cl : w'.cell? ⟨C, 0, none⟩ = some (.string ⟨code.toArray⟩) := (hk.cell (p := ⟨C, 0, none⟩) Cl CS).trans c0
                    refine gen_pure (v := .string ⟨code.toArray⟩) ?_ (hK _ _ rfl (Keeps.refl _ _) hst)
                    clear hK hdp hfr
                    go_simp
                · intro a w' c hk hst hc hfr hdp K hK
                  as_aux_lemma =>
                    have E38 : a.eval (.tmp 38) = .string ⟨code.toArray⟩ := Eq.symm (hdp 1 38 _ (by kernel_rfl) (by kernel_rfl) rfl)
                    have d38 := slot_of E38
                    refine gen_pure (v := .string ⟨(([43] : List UInt8) ++ code).toArray⟩) ?_ (hK _ _ ⟨(([43] : List UInt8) ++ code), by simp only [List.length_append, List.length_cons, List.length_nil]; omega, rfl⟩ (Keeps.refl _ _) hst)
                    clear hK hdp hfr
                    rw [← cat_str]
                    go_simp <;> omega
                · intro a w' c hk hst hc hfr hdp K hK
                  as_aux_lemma =>
                    have E6 : a.eval (.tmp 6) = .pointer (some ⟨D, 0, none⟩) := fr_list hfr 6 (by kernel_rfl)
                    have d6 := slot_of E6
                    refine gen_pure (v := .pointer (some ⟨D, 0, none⟩)) ?_ (hK _ _ rfl (Keeps.refl _ _) hst)
                    clear hK hdp hfr
                    go_simp
                · intro a w' c hk hst hc hfr hdp K hK
                  as_aux_lemma =>
                    have E40 : a.eval (.tmp 40) = .pointer (some ⟨D, 0, none⟩) := Eq.symm (hdp 3 40 _ (by kernel_rfl) (by kernel_rfl) rfl)
                    have d40 := slot_of E40
                    have cl : w'.cell? ⟨D, 0, none⟩ = some (.string ⟨xp.toArray⟩) := (hk.cell (p := ⟨D, 0, none⟩) Dl DS).trans d0
                    refine gen_pure (v := .string ⟨xp.toArray⟩) ?_ (hK _ _ rfl (Keeps.refl _ _) hst)
                    clear hK hdp hfr
                    go_simp
                · intro a w' c hk hst hc hfr hdp K hK
                  as_aux_lemma =>
                    obtain ⟨s1, hs1, e39⟩ := hdp 2 39 _ (by kernel_rfl) (by kernel_rfl) rfl
                    have E39 := Eq.symm e39
                    have d39 := slot_of E39
                    clear e39
                    have E41 : a.eval (.tmp 41) = .string ⟨xp.toArray⟩ := Eq.symm (hdp 4 41 _ (by kernel_rfl) (by kernel_rfl) rfl)
                    have d41 := slot_of E41
                    refine gen_pure (v := .string ⟨(s1 ++ xp).toArray⟩) ?_ (hK _ _ ⟨(s1 ++ xp), by simp only [List.length_append, List.length_cons, List.length_nil]; omega, rfl⟩ (Keeps.refl _ _) hst)
                    clear hK hdp hfr
                    rw [← cat_str]
                    go_simp <;> omega
                · intro a w' c hk hst hc hfr hdp K hK
                  as_aux_lemma =>
                    have E0 : a.eval (.tmp 0) = .pointer (some ⟨S, 0, none⟩) := fr_list hfr 0 (by kernel_rfl)
                    have d0 := slot_of E0
                    refine gen_pure (v := .pointer (some ⟨S, 0, none⟩)) ?_ (hK _ _ rfl (Keeps.refl _ _) hst)
                    clear hK hdp hfr
                    go_simp
                · intro a w' c hk hst hc hfr hdp K hK
                  as_aux_lemma =>
                    have E0 : a.eval (.tmp 0) = .pointer (some ⟨S, 0, none⟩) := fr_list hfr 0 (by kernel_rfl)
                    have d0 := slot_of E0
                    refine gen_pure (v := .pointer (some ⟨S, 0, none⟩)) ?_ (hK _ _ rfl (Keeps.refl _ _) hst)
                    clear hK hdp hfr
                    go_simp
                · intro a w' c hk hst hc hfr hdp K hK
                  as_aux_lemma =>
                    have E6 : a.eval (.tmp 6) = .pointer (some ⟨D, 0, none⟩) := fr_list hfr 6 (by kernel_rfl)
                    have d6 := slot_of E6
                    refine gen_pure (v := .pointer (some ⟨D, 1, none⟩)) ?_ (hK _ _ rfl (Keeps.refl _ _) hst)
                    clear hK hdp hfr
                    go_simp
                · intro a w' c hk hst hc hfr hdp K hK
                  as_aux_lemma =>
                    have E45 : a.eval (.tmp 45) = .pointer (some ⟨D, 1, none⟩) := Eq.symm (hdp 8 45 _ (by kernel_rfl) (by kernel_rfl) rfl)
                    have d45 := slot_of E45
                    have cl : w'.cell? ⟨D, 1, none⟩ = some (.int .i64 xl) := (hk.cell (p := ⟨D, 1, none⟩) Dl DS).trans d1
                    refine gen_pure (v := .int .i64 xl) ?_ (hK _ _ rfl (Keeps.refl _ _) hst)
                    clear hK hdp hfr
                    go_simp
                · intro a w' c hk hst hc hfr hdp K hK
                  as_aux_lemma =>
                    have E46 : a.eval (.tmp 46) = .int .i64 xl := Eq.symm (hdp 9 46 _ (by kernel_rfl) (by kernel_rfl) rfl)
                    have d46 := slot_of E46
                    have hrng : -4000000000000 ≤ (min xl 12 : Int) ∧ (min xl 12 : Int) ≤ 12 := by omega
                    refine gen_pure (v := .int .i64 (min xl 12 : Int)) ?_ (hK _ _ ⟨(min xl 12 : Int), hrng, rfl⟩ (Keeps.refl _ _) hst)
                    clear hK hdp hfr hrng
                    go_simp
                · intro a w' c hk hst hc hfr hdp K hK
                  as_aux_lemma =>
                    have E6 : a.eval (.tmp 6) = .pointer (some ⟨D, 0, none⟩) := fr_list hfr 6 (by kernel_rfl)
                    have d6 := slot_of E6
                    refine gen_pure (v := .pointer (some ⟨D, 2, none⟩)) ?_ (hK _ _ rfl (Keeps.refl _ _) hst)
                    clear hK hdp hfr
                    go_simp
                · intro a w' c hk hst hc hfr hdp K hK
                  as_aux_lemma =>
                    have E48 : a.eval (.tmp 48) = .pointer (some ⟨D, 2, none⟩) := Eq.symm (hdp 11 48 _ (by kernel_rfl) (by kernel_rfl) rfl)
                    have d48 := slot_of E48
                    have cl : w'.cell? ⟨D, 2, none⟩ = some (.int .i64 xh) := (hk.cell (p := ⟨D, 2, none⟩) Dl DS).trans d2
                    refine gen_pure (v := .int .i64 xh) ?_ (hK _ _ rfl (Keeps.refl _ _) hst)
                    clear hK hdp hfr
                    go_simp
                · intro a w' c hk hst hc hfr hdp K hK
                  as_aux_lemma =>
                    have E49 : a.eval (.tmp 49) = .int .i64 xh := Eq.symm (hdp 12 49 _ (by kernel_rfl) (by kernel_rfl) rfl)
                    have d49 := slot_of E49
                    have hrng : -4000000000000 ≤ (min xh 13 : Int) ∧ (min xh 13 : Int) ≤ 13 := by omega
                    refine gen_pure (v := .int .i64 (min xh 13 : Int)) ?_ (hK _ _ ⟨(min xh 13 : Int), hrng, rfl⟩ (Keeps.refl _ _) hst)
                    clear hK hdp hfr hrng
                    go_simp
                · intro a w' c hk hst hc hfr hdp K hK
                  as_aux_lemma =>
                    have E44 : a.eval (.tmp 44) = .pointer (some ⟨S, 0, none⟩) := Eq.symm (hdp 7 44 _ (by kernel_rfl) (by kernel_rfl) rfl)
                    have d44 := slot_of E44
                    obtain ⟨z3, hz3, e47⟩ := hdp 10 47 _ (by kernel_rfl) (by kernel_rfl) rfl
                    have E47 := Eq.symm e47
                    have d47 := slot_of E47
                    clear e47
                    obtain ⟨z4, hz4, e50⟩ := hdp 13 50 _ (by kernel_rfl) (by kernel_rfl) rfl
                    have E50 := Eq.symm e50
                    have d50 := slot_of E50
                    clear e50
                    have hc2 : c + 1 ≤ 3 := hc
                    refine gen_call 38 #[.pointer (some ⟨S, 0, none⟩), .int .i64 z3, .int .i64 z4] ?_ (range_gen S _ z3 z4 w' hst (by omega) (by omega) (by omega)) ?_
                    · clear hK hdp hfr; go_simp
                    rintro e w'' ⟨r, rfl, ⟨r0, r1⟩, hst2, hkp⟩
                    exact ⟨_, rfl, hK _ _ ⟨r, by omega, rfl⟩ hkp (hst2.mono (by simp; omega))⟩
                · intro a w' c hk hst hc hfr hdp K hK
                  as_aux_lemma =>
                    have E6 : a.eval (.tmp 6) = .pointer (some ⟨D, 0, none⟩) := fr_list hfr 6 (by kernel_rfl)
                    have d6 := slot_of E6
                    refine gen_pure (v := .pointer (some ⟨D, 0, none⟩)) ?_ (hK _ _ rfl (Keeps.refl _ _) hst)
                    clear hK hdp hfr
                    go_simp
                · intro a w' c hk hst hc hfr hdp K hK
                  as_aux_lemma =>
                    have E52 : a.eval (.tmp 52) = .pointer (some ⟨D, 0, none⟩) := Eq.symm (hdp 15 52 _ (by kernel_rfl) (by kernel_rfl) rfl)
                    have d52 := slot_of E52
                    have cl : w'.cell? ⟨D, 0, none⟩ = some (.string ⟨xp.toArray⟩) := (hk.cell (p := ⟨D, 0, none⟩) Dl DS).trans d0
                    refine gen_pure (v := .string ⟨xp.toArray⟩) ?_ (hK _ _ rfl (Keeps.refl _ _) hst)
                    clear hK hdp hfr
                    go_simp
                · intro a w' c hk hst hc hfr hdp K hK
                  as_aux_lemma =>
                    have E53 : a.eval (.tmp 53) = .string ⟨xp.toArray⟩ := Eq.symm (hdp 16 53 _ (by kernel_rfl) (by kernel_rfl) rfl)
                    have d53 := slot_of E53
                    refine gen_pure (v := .int .i64 (xp.length : Nat)) ?_ (hK _ _ rfl (Keeps.refl _ _) hst)
                    clear hK hdp hfr
                    go_simp
                · intro a w' c hk hst hc hfr hdp K hK
                  as_aux_lemma =>
                    obtain ⟨zr, hzr, e51⟩ := hdp 14 51 _ (by kernel_rfl) (by kernel_rfl) rfl
                    have E51 := Eq.symm e51
                    have d51 := slot_of E51
                    clear e51
                    have E54 : a.eval (.tmp 54) = .int .i64 (xp.length : Nat) := Eq.symm (hdp 17 54 _ (by kernel_rfl) (by kernel_rfl) rfl)
                    have d54 := slot_of E54
                    have hwr : IntKind.i64.wrap (zr - (xp.length : Nat)) = (zr - (xp.length : Nat)) := IntWalk.i64_in _ (by omega)
                    have hrng : -5000000000000 ≤ (zr - (xp.length : Nat)) ∧ (zr - (xp.length : Nat)) ≤ 13 := by omega
                    refine gen_pure (v := .int .i64 (zr - (xp.length : Nat))) ?_ (hK _ _ ⟨(zr - (xp.length : Nat)), hrng, rfl⟩ (Keeps.refl _ _) hst)
                    clear hK hdp hfr hrng
                    go_simp
                · intro a w' c hk hst hc hfr hdp K hK
                  as_aux_lemma =>
                    have E0 : a.eval (.tmp 0) = .pointer (some ⟨S, 0, none⟩) := fr_list hfr 0 (by kernel_rfl)
                    have d0 := slot_of E0
                    refine gen_pure (v := .pointer (some ⟨S, 0, none⟩)) ?_ (hK _ _ rfl (Keeps.refl _ _) hst)
                    clear hK hdp hfr
                    go_simp
                · intro a w' c hk hst hc hfr hdp K hK
                  as_aux_lemma =>
                    exact gen_alloc (p := (· = ([.int .i64 0, .int .i64 0, .int .i64 0, .int .i64 0, .int .i64 0, .int .i64 1, .int .i64 (-1)] : List Value))) #[.int .i64 0, .int .i64 0, .int .i64 0, .int .i64 0, .int .i64 0, .int .i64 1, .int .i64 (-1)] 3 (bs_int_ci7 _ (fun _ => rfl) _ _ _ _ _ _ _ _ _ rfl ) rfl hst hK
                · intro a w' c hk hst hc hfr hdp K hK
                  as_aux_lemma =>
                    have E56 : a.eval (.tmp 56) = .pointer (some ⟨S, 0, none⟩) := Eq.symm (hdp 19 56 _ (by kernel_rfl) (by kernel_rfl) rfl)
                    have d56 := slot_of E56
                    have d57 := hdp 20 57 _ (by kernel_rfl) (by kernel_rfl) rfl
                    have hc2 : c + 1 ≤ 3 := hc
                    generalize hv2 : a.eval (.tmp 57) = v2 at d57
                    have d3 := slot_of hv2
                    clear hv2
                    refine gen_call 41 #[.pointer (some ⟨S, 0, none⟩), v2] ?_ (calls_pick S _ v2 [0, 0, 0, 0, 0, 1, (-1)] (fun z6 => -1 ≤ z6 ∧ z6 ≤ 1) w' hst (by omega) d57 (by decide) (by decide) (by decide)) ?_
                    · clear hK hdp hfr; go_simp
                    rintro e w'' ⟨r, rfl, hr, hst2, hkp⟩
                    exact ⟨_, rfl, hK _ _ ⟨r, hr, rfl⟩ hkp (hst2.mono (by simp; omega))⟩
                · intro a w' c hk hst hc hfr hdp K hK
                  as_aux_lemma =>
                    obtain ⟨z5, hz5, e55⟩ := hdp 18 55 _ (by kernel_rfl) (by kernel_rfl) rfl
                    have E55 := Eq.symm e55
                    have d55 := slot_of E55
                    clear e55
                    obtain ⟨z6, hz6, e58⟩ := hdp 21 58 _ (by kernel_rfl) (by kernel_rfl) rfl
                    have E58 := Eq.symm e58
                    have d58 := slot_of E58
                    clear e58
                    have hwr : IntKind.i64.wrap (z5 + z6) = (z5 + z6) := IntWalk.i64_in _ (by omega)
                    have hrng : -6000000000000 ≤ (z5 + z6) ∧ (z5 + z6) ≤ 14 := by omega
                    refine gen_pure (v := .int .i64 (z5 + z6)) ?_ (hK _ _ ⟨(z5 + z6), hrng, rfl⟩ (Keeps.refl _ _) hst)
                    clear hK hdp hfr hrng
                    go_simp
                · intro a w' c hk hst hc hfr hdp K hK
                  as_aux_lemma =>
                    obtain ⟨z7, hz7, e59⟩ := hdp 22 59 _ (by kernel_rfl) (by kernel_rfl) rfl
                    have E59 := Eq.symm e59
                    have d59 := slot_of E59
                    clear e59
                    have hrng : 0 ≤ (max 0 z7 : Int) ∧ (max 0 z7 : Int) ≤ 14 := by omega
                    refine gen_pure (v := .int .i64 (((max 0 z7 : Int).toNat : Nat) : Int)) ?_ (hK _ _ ⟨(max 0 z7 : Int).toNat, by omega, rfl⟩ (Keeps.refl _ _) hst)
                    clear hK hdp hfr
                    rw [Int.toNat_of_nonneg hrng.1]
                    clear hrng
                    go_simp
                · intro a w' c hk hst hc hfr hdp K hK
                  as_aux_lemma =>
                    have E43 : a.eval (.tmp 43) = .pointer (some ⟨S, 0, none⟩) := Eq.symm (hdp 6 43 _ (by kernel_rfl) (by kernel_rfl) rfl)
                    have d43 := slot_of E43
                    obtain ⟨zn, hzn, e60⟩ := hdp 23 60 _ (by kernel_rfl) (by kernel_rfl) rfl
                    have E60 := Eq.symm e60
                    have d60 := slot_of E60
                    clear e60
                    have hc2 : c + 1 ≤ 3 := hc
                    refine gen_call 107 #[.pointer (some ⟨S, 0, none⟩), .int .i64 zn] ?_ (digitRow_any S _ zn w' hst (by omega) (by omega)) ?_
                    · clear hK hdp hfr; go_simp
                    rintro e w'' ⟨r, rfl, hr, hst2, hkp⟩
                    exact ⟨_, rfl, hK _ _ ⟨r, by omega, rfl⟩ hkp (hst2.mono (by simp; omega))⟩
                · intro a w' c hk hst hc hfr hdp K hK
                  as_aux_lemma =>
                    obtain ⟨s2, hs2, e42⟩ := hdp 5 42 _ (by kernel_rfl) (by kernel_rfl) rfl
                    have E42 := Eq.symm e42
                    have d42 := slot_of E42
                    clear e42
                    obtain ⟨sd, hsd, e61⟩ := hdp 24 61 _ (by kernel_rfl) (by kernel_rfl) rfl
                    have E61 := Eq.symm e61
                    have d61 := slot_of E61
                    clear e61
                    refine gen_pure (v := .string ⟨(s2 ++ sd).toArray⟩) ?_ (hK _ _ ⟨(s2 ++ sd), by simp only [List.length_append, List.length_cons, List.length_nil]; omega, rfl⟩ (Keeps.refl _ _) hst)
                    clear hK hdp hfr
                    rw [← cat_str]
                    go_simp <;> omega
                intro w8 hk8 hst8
                rintro _ - _ - _ - _ - _ - _ - _ - _ - _ - _ - _ - _ - _ - _ - _ - _ - _ - _ - _ - _ - _ - _ - _ - _ - _ - _ ⟨s8, hs8, rfl⟩
                simp only [ForVals, Act.put, List.setIfInBounds_toArray, List.set_cons_zero, List.set_cons_succ, List.drop_succ_cons, List.drop_zero]
                have HK8 := Lib.hid (HY.out.box.keeps.trans (Keeps.trans (by exact Keeps.of_below (ext_drew (Below.refl _ _))) hk8))
                have HS8 := Lib.hid hst8
                clear hk8 hst8 HY c0 d0 d1 d2
                go_wp2_with fail
                go_ret
                exact ⟨_, rfl, hs8, HS8.out.mono (by simp <;> omega), HK8.out⟩
  · skip
    as_aux_lemma =>
      go_wp2_with (refine wpList_val rfl (bs_str11 _ (fun _ => rfl) _ _ _ _ _ _ _ _ _ _ _ _ _ rfl) ?_)
      refine (some_any S (k + 1) w1.heap.size 11 11 [[], [43], [43, 49, 50, 51], [43, 48, 49, 50, 51], [52, 57, 51, 48, 49], [43, 52, 57, 51, 48, 49, 50, 51, 52, 53, 54, 55, 56, 57, 48, 49, 50, 51], [43, 55, 49, 50, 51], [43, 52, 57, 49, 49], [43, 52, 57, 51, 48], [43, 52, 57, 51, 48, 49, 50, 51, 52, 53, 54, 55, 56], [43, 49, 50, 48, 57]] (fun x => x.length ≤ 300) _ (HS1.out.below (ext_alloc (Below.refl _ _))) (by omega) (by simp) (by have := HS1.out.lt; omega) (by omega) (by omega) (fun i hi => by match i, hi with | 0, _ | 1, _ | 2, _ | 3, _ | 4, _ | 5, _ | 6, _ | 7, _ | 8, _ | 9, _ | 10, _ => go_simp) (fun i hi => by match i, hi with | 0, _ | 1, _ | 2, _ | 3, _ | 4, _ | 5, _ | 6, _ | 7, _ | 8, _ | 9, _ | 10, _ => decide)).mono ?_
      rintro e w5 ⟨x, rfl, hx, hst5, hkp5⟩
      have HK5 := Lib.hid ((HK1.out.alloc _).trans hkp5)
      have HS5 := Lib.hid hst5
      have HX := Lib.hid hx
      clear hst5 hkp5 hx
      go_wp2_with fail
      go_ret
      exact ⟨x, rfl, HX.out, HS5.out.mono (by omega), HK5.out⟩
end Go.Proofs.YtbbbaeenngjldaaGreatDoor

set_option linter.unusedVariables false
set_option linter.unusedSimpArgs false
namespace Go.Proofs.YtbbbaeenngjldaaGreatDoor
open Go.RowKit

theorem atoi_l (s : List UInt8) (n : Int) (hl : s.length ≤ 18) (h : Lib.atoi s = some n) (w : World) : Calls Tryz.prog 316 #[.string ⟨s.toArray⟩] w fun e w' => e = .returned (.tuple #[.int .i64 n, .nilIface]) ∧ Below w.heap.size w w' := (Tryz.strconv_Atoi ⟨s.toArray⟩ n hl h w).mono (fun e w' ⟨h1, t, h2⟩ => ⟨h1, by rw [h2]; exact ⟨rfl, rfl, rfl, by rw [Lib.bytesWorld_size]; omega, fun k hk => Lib.bytesWorld_at_old w _ _ k hk⟩⟩)

set_option maxRecDepth 100000 in
set_option maxHeartbeats 1000000 in
theorem spanOf_any (w : World) (f t : List UInt8) (a b : Int) (hf : f.length ≤ 16) (ht : t.length ≤ 16) (hf1 : 1 ≤ f.length) (ht1 : 1 ≤ t.length) (ha : Lib.atoi (f.drop 1) = some a) (hb : Lib.atoi (t.drop 1) = some b) : Calls Tryz.prog 231 #[.agg #[.string ⟨f.toArray⟩, .string ⟨t.toArray⟩]] w fun e w' => e = .returned (.agg #[.int .i64 ((f.length : Int) - 1), .int .i64 a, .int .i64 b]) ∧ Below w.heap.size w w' := by
  have HA := Lib.hid (fun w => atoi_l (f.drop 1) a (by rw [List.length_drop]; omega) ha w)
  have HB := Lib.hid (fun w => atoi_l (t.drop 1) b (by rw [List.length_drop]; omega) hb w)
  clear ha hb
  go_enter Tryz.func231, Tryz.ntmps231
  go_wp2_with fail
  rw [extract_drop]
  refine (HA.out _).mono ?_
  rintro e w1 ⟨rfl, hb1⟩
  obtain ⟨qc, qf⟩ := bcell hb1
  have hz1 : w.heap.size + 1 < w1.heap.size := by have := hb1.size; simp at this; omega
  have hz0 : w.heap.size < w1.heap.size := by omega
  have HB1 : Hid (Below w.heap.size w w1) := ext_trans (ext_alloc (ext_alloc (Below.refl _ _))) hb1
  have c0 : w1.cell? ⟨w.heap.size, 0, none⟩ = some (.string ⟨f.toArray⟩) := (qc _ 0 (by simp; omega)).trans (by go_simp)
  have c1 : w1.cell? ⟨w.heap.size, 1, none⟩ = some (.string ⟨t.toArray⟩) := (qc _ 1 (by simp; omega)).trans (by go_simp)
  have r0 : w1.cell? ⟨w.heap.size + 1, 0, none⟩ = some (.int .i64 0) := (qc _ 0 (by simp)).trans (by go_simp)
  have r1 : w1.cell? ⟨w.heap.size + 1, 1, none⟩ = some (.int .i64 0) := (qc _ 1 (by simp)).trans (by go_simp)
  have r2 : w1.cell? ⟨w.heap.size + 1, 2, none⟩ = some (.int .i64 0) := (qc _ 2 (by simp)).trans (by go_simp)
  have rf : ∀ j, w1.frozen? ⟨w.heap.size + 1, j, none⟩ = false := fun j => (qf _ j (by simp)).trans (by go_simp)
  clear qc qf hb1
  as_aux_lemma =>
    go_wp2_with fail
    rw [extract_drop]
    refine (HB.out _).mono ?_
    rintro e w2 ⟨rfl, hb2⟩
    obtain ⟨qc, qf⟩ := bcell hb2
    have HB2 := Lib.hid (ext_trans HB1.out hb2)
    have d0 := (qc _ 0 hz0).trans c0
    have s0 := (qc _ 0 hz1).trans r0
    have s1 := (qc _ 1 hz1).trans r1
    have s2 := (qc _ 2 hz1).trans r2
    have sf : ∀ j, w2.frozen? ⟨w.heap.size + 1, j, none⟩ = false := fun j => (qf _ j hz1).trans (rf j)
    clear qc qf hb2 c0 c1 r0 r1 r2 rf
    have HTX : Hid (w2.there (w.heap.size + 1) 0 3) := there3 s0 s1 s2 sf
    as_aux_lemma =>
      go_wp2_with fail
      rw [row3]
      have HC9 := Lib.hid (World.rangeAt_setCells_same w2 (w.heap.size + 1) 0 [.int .i64 ((f.length : Int) - 1), .int .i64 a, .int .i64 b] (HTX.out))
      have HB9 := Lib.hid (setCells_ext (B := w.heap.size + 1) (Nat.le_succ _) [.int .i64 ((f.length : Int) - 1), .int .i64 a, .int .i64 b] w2 0 HB2.out)
      generalize World.setCells w2 (w.heap.size + 1) 0 _ = W9 at HC9 HB9 ⊢
      refine bodyPost_ret (?_ : _ = Result.ok (.agg #[.int .i64 ((f.length : Int) - 1), .int .i64 a, .int .i64 b]) _) rfl ?_
      · exact results_cell1 (t := 2) (by rfl) _ _ _ Tryz.isAgg334 Tryz.sizeOf334 (by rfl) [.int .i64 ((f.length : Int) - 1), .int .i64 a, .int .i64 b] rfl (fun j v hj => by have := HC9.out j v hj; rw [Nat.zero_add] at this; exact this)
      exact ⟨rfl, HB9.out⟩

def r0S : List UInt8 := [43, 49, 48, 48, 48]
def r1S : List UInt8 := [43, 49, 48, 48, 57]
theorem Tryz.infoSpan : (Tryz.prog.info? 334).map (fun i => (i.zero, i.size, i.bytes)) = some (some (.agg #[.int .i64 0, .int .i64 0, .int .i64 0]), 3, 24) := by kernel_rfl

set_option maxRecDepth 100000 in
set_option maxHeartbeats 1000000 in
theorem checkRanges_one (w : World) (b : Nat) (hb : b < w.heap.size) (f t : List UInt8) (c0 : w.cell? ⟨b, 0, none⟩ = some (.string ⟨f.toArray⟩)) (c1 : w.cell? ⟨b, 1, none⟩ = some (.string ⟨t.toArray⟩)) (hf : f.length = 5) (ht : t.length = 5) (hnf : isNumB f = true) (hnt : isNumB t = true) (hlt : Op.bytesLess f t = true) : Calls Tryz.prog 223 #[.slice (some ⟨b, 0, none⟩) 1 1] w fun e w' => e = .returned (.int .i64 0) ∧ Below w.heap.size w w' := by
  have HNF := Lib.hid (fun w => isNumber_l f w (by omega))
  have HNT := Lib.hid (fun w => isNumber_l t w (by omega))
  rw [hnf] at HNF
  rw [hnt] at HNT
  clear hnf hnt
  suffices h : Calls Tryz.prog 134 #[.slice (some ⟨b, 0, none⟩) 1 1, .int .i64 1] w fun e w' => e = .returned (.int .i64 0) ∧ Below w.heap.size w w' by
    go_enter Tryz.func223, Tryz.ntmps223
    go_wp2_with (go_at_call 134; refine h.mono ?_; rintro e w' ⟨rfl, hB⟩)
    go_ret
    exact ⟨rfl, hB⟩
  go_enter Tryz.func134, Tryz.ntmps134
  go_wp2_with fail
  go_loopw [14] (fun it wr => ∃ k : Nat, k ≤ 1 ∧ it = .int .i64 k ∧ Hid (Below w.heap.size w wr)) (fun it _ => 1 - (intOf it).toNat)
  case atStart => exact ⟨0, Nat.zero_le _, rfl, Below.refl _ _⟩
  case round =>
    obtain ⟨k, hk, rfl, HB⟩ := hrel
    by_cases hk0 : k = 0
    · subst hk0
      have d0 := (HB.out.cell (p := ⟨b, 0, none⟩) hb).trans c0
      have d1 := (HB.out.cell (p := ⟨b, 1, none⟩) hb).trans c1
      clear c0 c1
      as_aux_lemma =>
        go_wp2_with fail
        refine (HNF.out _).mono ?_
        rintro e w2 ⟨rfl, hb2⟩
        obtain ⟨qc, qf⟩ := bcell hb2
        have hz2 : wr.heap.size < w2.heap.size := by have := hb2.size; simp at this; omega
        have e0 : w2.cell? ⟨wr.heap.size, 0, none⟩ = some (.string ⟨f.toArray⟩) := (qc _ 0 (by simp)).trans (by go_simp)
        have e1 : w2.cell? ⟨wr.heap.size, 1, none⟩ = some (.string ⟨t.toArray⟩) := (qc _ 1 (by simp)).trans (by go_simp)
        have HB2 : Hid (Below w.heap.size w w2) := ext_trans (ext_alloc HB.out) hb2
        clear qc qf hb2 d0 d1
        as_aux_lemma =>
          go_wp2_with fail
          refine (HNT.out _).mono ?_
          rintro e w3 ⟨rfl, hb3⟩
          obtain ⟨qc, qf⟩ := bcell hb3
          have f0 := (qc _ 0 hz2).trans e0
          have f1 := (qc _ 1 hz2).trans e1
          have HB3 := Lib.hid (ext_trans HB2.out hb3)
          clear qc qf hb3 e0 e1
          as_aux_lemma =>
            go_wp2_with fail
            go_roundw
            case rel => exact ⟨1, by omega, by go_num, HB3.out⟩
            case measure => simp [intOf]
    · obtain rfl : k = 1 := by omega
      clear c0 c1
      go_wp2_with fail
      go_ret
      exact ⟨rfl, HB.out⟩

set_option maxRecDepth 100000 in
set_option maxHeartbeats 1000000 in
theorem spans_one (w : World) (b : Nat) (hb : b < w.heap.size) (f t : List UInt8) (x y : Int) (c0 : w.cell? ⟨b, 0, none⟩ = some (.string ⟨f.toArray⟩)) (c1 : w.cell? ⟨b, 1, none⟩ = some (.string ⟨t.toArray⟩)) (hf : f.length = 5) (ht : t.length = 5) (ha : Lib.atoi (f.drop 1) = some x) (hb' : Lib.atoi (t.drop 1) = some y) : Calls Tryz.prog 224 #[.slice (some ⟨b, 0, none⟩) 1 1] w fun e w' => ∃ v, e = .returned v ∧ w'.ownsRow w.heap.size 334 3 v 1 [.int .i64 4, .int .i64 x, .int .i64 y] ∧ Below w.heap.size w w' := by
  have HS := Lib.hid (fun w => spanOf_any w f t x y (by omega) (by omega) (by omega) (by omega) ha hb')
  obtain ⟨i1, hi1, hy0, hy1, hy2⟩ := info_parts Tryz.infoSpan
  rw [hf] at HS
  clear ha hb' hf ht
  go_enter Tryz.func224, Tryz.ntmps224
  go_wp2_with fail
  go_loopw [3, 8] (fun v it wr => ∃ k : Nat, k ≤ 1 ∧ (k = 0 → v = .slice none 0 0) ∧ it = .int .i64 k ∧ Hid (wr.ownsRow w.heap.size 334 3 v k (([.int .i64 4, .int .i64 x, .int .i64 y] : List Value).take (3 * k))) ∧ Hid (Below w.heap.size w wr)) (fun _ it _ => 1 - (intOf it).toNat)
  case atStart => exact ⟨0, Nat.zero_le _, fun _ => rfl, rfl, World.ownsRow_nil _ _ _ _, Below.refl _ _⟩
  case round =>
    obtain ⟨k, hk, hnil, rfl, HO, HB⟩ := hrel
    by_cases hk0 : k = 0
    · subst hk0
      obtain rfl := hnil rfl
      have d0 := (HB.out.cell (p := ⟨b, 0, none⟩) hb).trans c0
      have d1 := (HB.out.cell (p := ⟨b, 1, none⟩) hb).trans c1
      clear c0 c1
      as_aux_lemma =>
        go_wp2_with fail
        refine (HS.out _).mono ?_
        rintro e w2 ⟨rfl, hb2⟩
        have HB2 : Hid (Below w.heap.size w w2) := ext_trans (ext_alloc HB.out) hb2
        clear hb2 d0 d1
        as_aux_lemma =>
          go_wp2_with (at_builtin; refine wpList_append_own_at _ rfl (.tmp 12) (.tmp 15) 331 rfl w.heap.size 334 i1 _ 3 24 Tryz.underlying331 hi1 hy0 hy1 hy2 rfl (by omega) _ 0 [] rfl (World.ownsRow_nil _ _ _ _) ⟨w2.heap.size, 0, none⟩ 1 1 [.int .i64 ((5 : Nat) - 1 : Int), .int .i64 x, .int .i64 y] rfl rfl (fun j u hj => by rw [show (⟨w2.heap.size, 0, none⟩ : Addr).add j = ⟨w2.heap.size, j, none⟩ by unfold Addr.add; split <;> simp_all]; match j, hj with | 0, hj => simp at hj; subst hj; go_simp | 1, hj => simp at hj; subst hj; go_simp | 2, hj => simp at hj; subst hj; go_simp) (by simp [Value.oneCell']) (by decide) (by omega) (by have := HB2.out.size; simp; omega) ?_; intro v9 w9 hown9 hgr9 _ _)
          have HO9 := Lib.hid hown9
          have HB9 : Hid (Below w.heap.size w w9) := ext_trans (ext_alloc HB2.out) (below_of_grown_none hgr9)
          clear hown9 hgr9
          as_aux_lemma =>
            go_wp2_with fail
            go_roundw
            case rel => exact ⟨1, by omega, fun h => absurd h (by decide), by go_num, HO9.out, HB9.out⟩
            case measure => simp [intOf]
    · obtain rfl : k = 1 := by omega
      clear c0 c1
      go_wp2_with fail
      go_ret
      exact ⟨_, rfl, HO.out, HB.out⟩

set_option maxRecDepth 100000 in
set_option maxHeartbeats 1000000 in
theorem count_one (w : World) (b : Nat) (hb : b < w.heap.size) (c0 : w.cell? ⟨b, 0, none⟩ = some (.string ⟨r0S.toArray⟩)) (c1 : w.cell? ⟨b, 1, none⟩ = some (.string ⟨r1S.toArray⟩)) : Calls Tryz.prog 125 #[.slice (some ⟨b, 0, none⟩) 1 1] w fun e w' => e = .returned (.tuple #[.int .i64 10, .int .i64 0]) ∧ Below w.heap.size w w' := by
  have HC := Lib.hid (checkRanges_one w b hb r0S r1S c0 c1 rfl rfl (by decide +kernel) (by decide +kernel) (by decide +kernel))
  have HSP : Hid (∀ W, Below w.heap.size w W → Calls Tryz.prog 224 #[.slice (some ⟨b, 0, none⟩) 1 1] W fun e w' => ∃ v, e = .returned v ∧ w'.ownsRow W.heap.size 334 3 v 1 [.int .i64 4, .int .i64 1000, .int .i64 1009] ∧ Below W.heap.size W w') := fun W hW => spans_one W b (Nat.lt_of_lt_of_le hb hW.size) r0S r1S 1000 1009 ((hW.cell (p := ⟨b, 0, none⟩) hb).trans c0) ((hW.cell (p := ⟨b, 1, none⟩) hb).trans c1) rfl rfl (by decide +kernel) (by decide +kernel)
  clear c0 c1
  go_enter Tryz.func125, Tryz.ntmps125
  go_wp2_with fail
  refine HC.out.mono ?_
  rintro e w1 ⟨rfl, hb1⟩
  have HB1 := Lib.hid hb1
  clear hb1
  go_wp2_with fail
  refine (HSP.out _ HB1.out).mono ?_
  rintro e w2 ⟨v, rfl, hown, hb2⟩
  have HB2 := Lib.hid (ext_trans HB1.out hb2)
  obtain ⟨-, h9⟩ | ⟨g, cp, cu, rfl, hg⟩ := hown.2
  · cases h9
  have hcs := hown.cells (g := g) rfl
  have hg2 := (hown.lt g rfl).2
  have aa : ∀ j, (⟨g, 0, none⟩ : Addr).add j = ⟨g, j, none⟩ := fun j => by unfold Addr.add; split <;> simp_all
  have s0 : w2.cell? ⟨g, 0, none⟩ = some (.int .i64 4) := by rw [← aa 0]; exact hcs 0 _ rfl
  have s1 : w2.cell? ⟨g, 1, none⟩ = some (.int .i64 1000) := by rw [← aa 1]; exact hcs 1 _ rfl
  have s2 : w2.cell? ⟨g, 2, none⟩ = some (.int .i64 1009) := by rw [← aa 2]; exact hcs 2 _ rfl
  clear hown hg hcs aa hb2
  as_aux_lemma =>
    go_wp2_with fail
    go_loopw [5, 16] (fun acc it wr => ∃ k : Nat, k ≤ 1 ∧ acc = .int .i64 (10 * (k : Int)) ∧ it = .int .i64 k ∧ Hid (Below w2.heap.size w2 wr)) (fun _ it _ => 1 - (intOf it).toNat)
    case atStart => exact ⟨0, Nat.zero_le _, rfl, rfl, Below.refl _ _⟩
    case round =>
      obtain ⟨k, hk, rfl, rfl, HB⟩ := hrel
      by_cases hk0 : k = 0
      · subst hk0
        have d0 := (HB.out.cell (p := ⟨g, 0, none⟩) hg2).trans s0
        have d1 := (HB.out.cell (p := ⟨g, 1, none⟩) hg2).trans s1
        have d2 := (HB.out.cell (p := ⟨g, 2, none⟩) hg2).trans s2
        clear s0 s1 s2
        go_wp2_with fail
        go_roundw
        case rel => exact ⟨1, by omega, by go_num, by go_num, ext_alloc HB.out⟩
        case measure => simp [intOf]
      · obtain rfl : k = 1 := by omega
        clear s0 s1 s2
        go_wp2_with fail
        go_ret2
        exact ⟨rfl, ext_trans HB2.out HB.out⟩

set_option maxRecDepth 100000 in
theorem numbered_any (w : World) : Calls Tryz.prog 22 #[] w fun e w' => e = .returned (.bool true) ∧ Below w.heap.size w w' := by
  have HC : Hid (Calls Tryz.prog 125 #[.slice (some ⟨w.heap.size, 0, none⟩) 1 1] (w.alloc (.cells #[.string ⟨#[43, 49, 48, 48, 48]⟩, .string ⟨#[43, 49, 48, 48, 57]⟩] 207)) fun e w' => e = .returned (.tuple #[.int .i64 10, .int .i64 0]) ∧ Below (w.alloc (.cells #[.string ⟨#[43, 49, 48, 48, 48]⟩, .string ⟨#[43, 49, 48, 48, 57]⟩] 207)).heap.size (w.alloc (.cells #[.string ⟨#[43, 49, 48, 48, 48]⟩, .string ⟨#[43, 49, 48, 48, 57]⟩] 207)) w') := count_one _ w.heap.size (by simp) (by go_simp; rfl) (by go_simp; rfl)
  go_enter Tryz.func22, Tryz.ntmps22
  go_wp2_with fail
  refine HC.out.mono ?_
  rintro e w1 ⟨rfl, hb1⟩
  have HB1 : Hid (Below w.heap.size w w1) := ext_trans (ext_alloc (Below.refl _ _)) hb1
  go_wp2_with fail
  go_ret
  exact ⟨rfl, HB1.out⟩
end Go.Proofs.YtbbbaeenngjldaaGreatDoor
