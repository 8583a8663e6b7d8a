/- What is proved here: lemmas and contracts for the statement, put together out of smaller texts (RightHours, DplRow, DplIdx, HourOpen, HourCheck, DplKey, DplCnt). No condition beyond those stated. -/
import Derived.Test.YtkdadbpajhdelaaGreatDoorCePkA
import Derived.Test.YtkdadbpajhdelaaGreatDoorCePkC
import Derived.IntWalk
import Derived.Deep.Cut
import Derived.Test.YtkdadbpajhdelaaGreatDoorShelfDpl
set_option linter.unusedVariables false
set_option linter.unusedSimpArgs false
namespace Go.Proofs.YtkdadbpajhdelaaGreatDoor
open Go.RowKit

/-- Hours as they lie in a row, with what their slices hold. -/
structure Hrs where
  key : List UInt8
  zone : Int
  ra : Option Addr
  rn : Nat
  rc : Nat
  ha : Option Addr
  hn : Nat
  hc : Nat
  rows : List Tri
  hols : List Tri
def Hrs.cells (x : Hrs) : List Value := [.string ⟨x.key.toArray⟩, .int .i64 x.zone, .slice x.ra x.rn x.rc, .slice x.ha x.hn x.hc]
structure HrsOk (w : World) (base : Nat) (x : Hrs) : Prop where
  own1 : w.ownsRow base 127 3 (.slice x.ra x.rn x.rc) x.rn (flatT x.rows)
  own2 : w.ownsRow base 129 3 (.slice x.ha x.hn x.hc) x.hn (flatT x.hols)
  ok : HoursOk x.zone x.rows x.hols
theorem HrsOk.keeps {w w' : World} {base S : Nat} {x : Hrs} (h : HrsOk w base x) (k : Keeps S w w') (hS : S < base) : HrsOk w' base x := ⟨own_keeps h.own1 k hS, own_keeps h.own2 k hS, h.ok⟩
theorem HrsOk.below {w w' : World} {base : Nat} {x : Hrs} (h : HrsOk w base x) (k : Below w.heap.size w w') : HrsOk w' base x := ⟨h.own1.kept_below k, h.own2.kept_below k, h.ok⟩
theorem HrsOk.tri {w : World} {base : Nat} {x : Hrs} (h : HrsOk w base x) : TriRow w x.ra x.rn x.rows ∧ TriRow w x.ha x.hn x.hols := by
  obtain ⟨a, cap, e, h1, _⟩ := TriRow.of_own h.own1
  obtain ⟨b, cap2, e2, h2, _⟩ := TriRow.of_own h.own2
  cases e; cases e2
  exact ⟨h1, h2⟩
/-- Rows of two types are two blocks. -/
theorem own_apart {w : World} {b1 b2 : Nat} {e1 e2 : TypeId} {s1 s2 : Nat} {v1 v2 : Value} {n1 n2 : Nat} {xs ys : List Value} (h1 : w.ownsRow b1 e1 s1 v1 n1 xs) (h2 : w.ownsRow b2 e2 s2 v2 n2 ys) (he : e1 ≠ e2) : v1.ownBlock = none ∨ v1.ownBlock ≠ v2.ownBlock := by
  rcases h1.2 with ⟨rfl, _⟩ | ⟨g, cap, cur, rfl, _, hg, _⟩
  · exact Or.inl rfl
  · rcases h2.2 with ⟨rfl, _⟩ | ⟨g2, cap2, cur2, rfl, _, hg2, _⟩
    · exact Or.inr (by simp [Value.ownBlock])
    · refine Or.inr fun e => ?_
      simp [Value.ownBlock] at e
      subst e
      rw [hg] at hg2
      injection hg2 with hg2
      injection hg2 with _ h2
      exact he h2
theorem own_grown {w w' : World} {b1 b2 : Nat} {e1 e2 : TypeId} {s1 s2 : Nat} {v1 v2 : Value} {n1 n2 : Nat} {xs ys : List Value} (h1 : w.ownsRow b1 e1 s1 v1 n1 xs) (h2 : w.ownsRow b2 e2 s2 v2 n2 ys) (he : e1 ≠ e2) (hg : w.grownBy w' v2.ownBlock) : w'.ownsRow b1 e1 s1 v1 n1 xs := by
  refine h1.kept hg ?_
  rcases own_apart h1 h2 he with h | h
  · exact Or.inl h
  · exact Or.inr h
theorem HrsOk.grown {w w' : World} {base b2 : Nat} {x : Hrs} {v : Value} {n : Nat} {ys : List Value} (h : HrsOk w base x) (h2 : w.ownsRow b2 125 4 v n ys) (hg : w.grownBy w' v.ownBlock) : HrsOk w' base x :=
  ⟨own_grown h.own1 h2 (by decide) hg, own_grown h.own2 h2 (by decide) hg, h.ok⟩

/-- Hours in the making: their own block T, the rows and the holidays behind it. -/
structure HrAt (S K T : Nat) (w0 wr : World) (key : List UInt8) (zone : Int) (v1 v2 : Value) (rows hols : List Tri) : Prop where
  c0 : wr.cell? ⟨T, 0, none⟩ = some (.string ⟨key.toArray⟩)
  c1 : wr.cell? ⟨T, 1, none⟩ = some (.int .i64 zone)
  c2 : wr.cell? ⟨T, 2, none⟩ = some v1
  c3 : wr.cell? ⟨T, 3, none⟩ = some v2
  fro : ∀ j, wr.frozen? ⟨T, j, none⟩ = false
  own1 : wr.ownsRow (T + 1) 127 3 v1 rows.length (flatT rows)
  own2 : wr.ownsRow (T + 1) 129 3 v2 hols.length (flatT hols)
  keeps : Keeps S w0 wr
  stream : StreamOk wr S K
  size : T < wr.heap.size

theorem HrAt.kept {S K T : Nat} {w0 wr w' : World} {key : List UInt8} {zone : Int} {v1 v2 : Value} {rows hols : List Tri} (h : HrAt S K T w0 wr key zone v1 v2 rows hols) (hT : S < T) (hk : Keeps S wr w') {K' : Nat} (hs : StreamOk w' S K') : HrAt S K' T w0 w' key zone v1 v2 rows hols := by
  have cc := fun j => hk.cell (p := ⟨T, j, none⟩) h.size (by show T ≠ S; omega)
  exact ⟨(cc 0).trans h.c0, (cc 1).trans h.c1, (cc 2).trans h.c2, (cc 3).trans h.c3, fun j => (hk.frozen (p := ⟨T, j, none⟩) h.size (by show T ≠ S; omega)).trans (h.fro j), own_keeps h.own1 hk (by omega), own_keeps h.own2 hk (by omega), h.keeps.trans hk, hs, Nat.lt_of_lt_of_le h.size hk.size⟩

theorem own_ne {w : World} {base : Nat} {e : TypeId} {size : Nat} {v : Value} {n : Nat} {xs : List Value} (h : w.ownsRow base e size v n xs) {b : Nat} (hb : b < base) : v.ownBlock ≠ some b := fun e => by have := (h.lt _ e).1; omega
theorem grownB_cell {X w1 : World} {row : Option Nat} (h : X.grownBy w1 row) {b : Nat} (hb : b < X.heap.size) (hn : row ≠ some b) (o : Nat) : w1.cell? ⟨b, o, none⟩ = X.cell? ⟨b, o, none⟩ := World.cell?_of_block (w := X) (a := ⟨b, o, none⟩) (h.block b hb (fun e => hn e.symm))
theorem grownB_frozen {X w1 : World} {row : Option Nat} (h : X.grownBy w1 row) {b : Nat} (hb : b < X.heap.size) (hn : row ≠ some b) (o : Nat) : w1.frozen? ⟨b, o, none⟩ = X.frozen? ⟨b, o, none⟩ := World.frozen?_of_block (w := X) (a := ⟨b, o, none⟩) (h.block b hb (fun e => hn e.symm))

theorem HrAt.setOther {S K T : Nat} {w0 wr : World} {key : List UInt8} {zone : Int} {v1 v2 : Value} {rows hols : List Tri} (h : HrAt S K T w0 wr key zone v1 v2 rows hols) {p : Addr} (hp : w0.heap.size ≤ p.block) (hS : S < p.block) (hT : p.block ≠ T) (n1 : v1.ownBlock ≠ some p.block) (n2 : v2.ownBlock ≠ some p.block) (u : Value) : HrAt S K T w0 (wr.setCell p u) key zone v1 v2 rows hols := by
  have sc := fun j => World.cell?_setCell_other wr p ⟨T, j, none⟩ u (by intro e; apply hT; rw [e])
  exact ⟨(sc 0).trans h.c0, (sc 1).trans h.c1, (sc 2).trans h.c2, (sc 3).trans h.c3, fun j => by rw [World.frozen?_setCell]; exact h.fro j, ownsRow_setCell_other h.own1 n1 u, ownsRow_setCell_other h.own2 n2 u, h.keeps.setCell_new hp u, h.stream.upto ((Below.refl (S + 1) wr).setCell (by omega) u), by have := h.size; simpa using this⟩
theorem HrAt.push1 {S K T : Nat} {w0 w8 w9 : World} {key : List UInt8} {zone : Int} {v1 v2 v' : Value} {rows hols : List Tri} {x : Tri} (h : HrAt S K T w0 w8 key zone v1 v2 rows hols) (hS : S < T) (hT : w0.heap.size ≤ T) (hg : w8.grownBy w9 v1.ownBlock)
    (hown : w9.ownsRow (T + 1) 127 3 v' (rows.length + 1) (flatT rows ++ x.cells)) : HrAt S K T w0 (w9.setCell ⟨T, 2, none⟩ v') key zone v' v2 (rows ++ [x]) hols := by
  have ne := own_ne h.own1 (b := T) (by omega)
  have gc := fun o => grownB_cell hg h.size ne o
  have sc := fun j (hj : j ≠ 2) => World.cell?_setCell_other w9 ⟨T, 2, none⟩ ⟨T, j, none⟩ v' (by first | (simp; done) | (simp; omega))
  refine ⟨(sc 0 (by omega)).trans ((gc 0).trans h.c0), (sc 1 (by omega)).trans ((gc 1).trans h.c1), World.cell?_setCell_same _ _ _ ((gc 2).trans h.c2), (sc 3 (by omega)).trans ((gc 3).trans h.c3), fun j => ?_, ?_, ?_, ?_, ?_, ?_⟩
  · rw [World.frozen?_setCell]; exact (grownB_frozen hg h.size ne j).trans (h.fro j)
  · rw [flatT_snoc, List.length_append]; exact ownsRow_setCell_below hown (by show T < _; omega) v'
  · exact ownsRow_setCell_below (own_grown h.own2 h.own1 (by decide) hg) (by show T < _; omega) v'
  · exact (h.keeps.grown0 hg (fun b e => by have := (h.own1.lt _ e).1; omega)).setCell_new hT _
  · exact h.stream.upto ((((Below.refl (S + 1) w8).grown hg (by have := h.size; omega) (fun b e => by have := (h.own1.lt _ e).1; omega))).setCell (by show S + 1 ≤ T; omega) v')
  · have := hg.size; have := h.size; simp; omega
theorem HrAt.push2 {S K T : Nat} {w0 w8 w9 : World} {key : List UInt8} {zone : Int} {v1 v2 v' : Value} {rows hols : List Tri} {x : Tri} (h : HrAt S K T w0 w8 key zone v1 v2 rows hols) (hS : S < T) (hT : w0.heap.size ≤ T) (hg : w8.grownBy w9 v2.ownBlock)
    (hown : w9.ownsRow (T + 1) 129 3 v' (hols.length + 1) (flatT hols ++ x.cells)) : HrAt S K T w0 (w9.setCell ⟨T, 3, none⟩ v') key zone v1 v' rows (hols ++ [x]) := by
  have ne := own_ne h.own2 (b := T) (by omega)
  have gc := fun o => grownB_cell hg h.size ne o
  have sc := fun j (hj : j ≠ 3) => World.cell?_setCell_other w9 ⟨T, 3, none⟩ ⟨T, j, none⟩ v' (by first | (simp; done) | (simp; omega))
  refine ⟨(sc 0 (by omega)).trans ((gc 0).trans h.c0), (sc 1 (by omega)).trans ((gc 1).trans h.c1), (sc 2 (by omega)).trans ((gc 2).trans h.c2), World.cell?_setCell_same _ _ _ ((gc 3).trans h.c3), fun j => ?_, ?_, ?_, ?_, ?_, ?_⟩
  · rw [World.frozen?_setCell]; exact (grownB_frozen hg h.size ne j).trans (h.fro j)
  · exact ownsRow_setCell_below (own_grown h.own1 h.own2 (by decide) hg) (by show T < _; omega) v'
  · rw [flatT_snoc, List.length_append]; exact ownsRow_setCell_below hown (by show T < _; omega) v'
  · exact (h.keeps.grown0 hg (fun b e => by have := (h.own2.lt _ e).1; omega)).setCell_new hT _
  · exact h.stream.upto ((((Below.refl (S + 1) w8).grown hg (by have := h.size; omega) (fun b e => by have := (h.own2.lt _ e).1; omega))).setCell (by show S + 1 ≤ T; omega) v')
  · have := hg.size; have := h.size; simp; omega

theorem Tryz.infoRow : (Tryz.prog.info? 127).map (fun i => (i.zero, i.size, i.bytes)) = some (some (.agg #[.int .i64 0, .int .i64 0, .int .i64 0]), 3, 24) := by kernel_rfl
theorem Tryz.infoHoliday : (Tryz.prog.info? 129).map (fun i => (i.zero, i.size, i.bytes)) = some (some (.agg #[.int .i64 0, .int .i64 0, .int .i64 0]), 3, 24) := by kernel_rfl
theorem Tryz.infoHours : (Tryz.prog.info? 125).map (fun i => (i.zero, i.size, i.bytes)) = some (some (.agg #[.string ⟨#[]⟩, .int .i64 0, .slice none 0 0, .slice none 0 0]), 4, 72) := by kernel_rfl

/-- What is known of the rows and holidays that have been made. -/
def RowsGood (l : List Tri) : Prop := ∀ x ∈ l, 1 ≤ x.a ∧ x.a ≤ 127 ∧ 0 ≤ x.b ∧ x.b < x.c ∧ x.c ≤ 1440
def HolsGood (n : Nat) (l : List Tri) : Prop := (∀ x ∈ l, (x.b = 0 ∧ x.c = 0) ∨ (0 ≤ x.b ∧ x.b < x.c ∧ x.c ≤ 1440)) ∧ (l.map Tri.a).Sublist (([0, 2, 3] : List Int).take n)
theorem RowsGood.snoc {l : List Tri} {x : Tri} (h : RowsGood l) (hx : 1 ≤ x.a ∧ x.a ≤ 127 ∧ 0 ≤ x.b ∧ x.b < x.c ∧ x.c ≤ 1440) : RowsGood (l ++ [x]) := by
  intro y hy
  rcases List.mem_append.1 hy with hy | hy
  · exact h y hy
  · simp at hy; subst hy; exact hx
theorem HolsGood.skip {n : Nat} {l : List Tri} (h : HolsGood n l) : HolsGood (n + 1) l := ⟨h.1, h.2.trans (List.take_sublist_take_left (by omega))⟩
theorem HolsGood.snoc {n : Nat} {l : List Tri} {x : Tri} (h : HolsGood n l) (hn : n < 3) (hd : x.a = ([0, 2, 3] : List Int).getD n 0) (hx : (x.b = 0 ∧ x.c = 0) ∨ (0 ≤ x.b ∧ x.b < x.c ∧ x.c ≤ 1440)) : HolsGood (n + 1) (l ++ [x]) := by
  refine ⟨?_, ?_⟩
  · intro y hy
    rcases List.mem_append.1 hy with hy | hy
    · exact h.1 y hy
    · simp at hy; subst hy; exact hx
  · have hl : n < ([0, 2, 3] : List Int).length := by simpa using hn
    rw [List.map_append, List.take_succ_eq_append_getElem hl]
    refine List.Sublist.append h.2 ?_
    have : ([0, 2, 3] : List Int)[n] = x.a := by rw [hd]; simp [List.getD_eq_getElem?_getD, List.getElem?_eq_getElem hl]
    simp [this]
theorem hours_good {zone : Int} {rows hols : List Tri} {n : Nat} (z0 : -1440 ≤ zone) (z1 : zone ≤ 1440) (hr : RowsGood rows) (hl : rows.length ≤ 2) (hh : HolsGood n hols) (hn : n ≤ 3) : HoursOk zone rows hols := by
  have hg : ∀ (l : List Tri) i, i < l.length → l.getD i noTri ∈ l := fun l i hi => by
    rw [List.getD_eq_getElem?_getD, List.getElem?_eq_getElem hi]; exact List.getElem_mem hi
  have hs3 : (hols.map Tri.a).Sublist ([0, 2, 3] : List Int) := hh.2.trans (List.take_sublist _ _)
  have hlen : hols.length ≤ 3 := by have := hs3.length_le; simpa using this
  have hp : (hols.map Tri.a).Pairwise (· < ·) := List.Pairwise.sublist hs3 (by decide)
  refine ⟨z0, z1, by omega, by omega, fun i hi => hr _ (hg _ i hi), fun i hi => ?_, fun i h0 hi => ?_⟩
  · have hm : (hols.getD i noTri).a ∈ ([0, 2, 3] : List Int) := hs3.subset (List.mem_map_of_mem (hg _ i hi))
    have hb := hh.1 _ (hg _ i hi)
    refine ⟨?_, ?_, hb⟩ <;> (generalize (hols.getD i noTri).a = f at hm ⊢; simp at hm; omega)
  · rw [List.pairwise_iff_getElem] at hp
    have := hp (i - 1) i (by simp; omega) (by simpa using hi) (by omega)
    simp only [List.getElem_map] at this
    rw [List.getD_eq_getElem?_getD, List.getElem?_eq_getElem (show i - 1 < hols.length by omega), List.getD_eq_getElem?_getD, List.getElem?_eq_getElem hi]
    exact this

def hourKeys : List (List UInt8) := [[104, 97], [104, 98]]
/-- Hours so far. -/
structure HoursAt (S K : Nat) (w wr : World) (v : Value) (l : List Hrs) : Prop where
  own : wr.ownsRow (w.heap.size + 1) 125 4 v l.length (l.flatMap Hrs.cells)
  each : ∀ x ∈ l, HrsOk wr (w.heap.size + 1) x
  keys : ∀ i, i < l.length → (l.map Hrs.key)[i]? = some (hourKeys.getD i [])
  cell : ∀ j, j < 2 → wr.cell? ⟨w.heap.size, j, none⟩ = some (.string ⟨(hourKeys.getD j []).toArray⟩)
  keeps : Keeps S w wr
  stream : StreamOk wr S K
  size : w.heap.size < wr.heap.size

def RightHoursPost (S k : Nat) (w : World) (e : Ending) (w' : World) : Prop :=
  ∃ (v : Value) (l : List Hrs), e = .returned v ∧ l.length = 2 ∧ HoursAt S k w w' v l

theorem HoursAt.push {S K K' T : Nat} {w w0 w8 w9 : World} {v v' : Value} {l : List Hrs} {x : Hrs} (h : HoursAt S K w w0 v l) (hS : S < w.heap.size) (hT : w0.heap.size ≤ T) (hx : HrAt S K' T w0 w8 x.key x.zone (.slice x.ra x.rn x.rc) (.slice x.ha x.hn x.hc) x.rows x.hols) (hok : HoursOk x.zone x.rows x.hols) (e1 : x.rn = x.rows.length) (e2 : x.hn = x.hols.length) (hkey : x.key = hourKeys.getD l.length [])
    {o : Obj} (hg : (w8.alloc o).grownBy w9 v.ownBlock) (hown : w9.ownsRow (w.heap.size + 1) 125 4 v' (l.length + 1) (l.flatMap Hrs.cells ++ x.cells)) : HoursAt S K' w w9 v' (l ++ [x]) := by
  have hv8 := own_keeps h.own hx.keeps (by omega)
  have z0 := h.size
  have z8 := hx.keeps.size
  have hk8 : Keeps S w w8 := h.keeps.trans hx.keeps
  refine ⟨?_, ?_, ?_, ?_, ?_, ?_, ?_⟩
  · rw [List.length_append, List.flatMap_append]; simpa using hown
  · intro y hy
    rcases List.mem_append.1 hy with hy | hy
    · exact (((h.each y hy).keeps hx.keeps (by omega)).below (ext_alloc (Below.refl _ w8))).grown (hv8.alloc o) hg
    · simp at hy
      subst hy
      have b1 : w8.ownsRow (w.heap.size + 1) 127 3 (.slice y.ra y.rn y.rc) y.rn (flatT y.rows) := by
        rw [e1]
        have := hx.own1
        rw [e1] at this
        refine ⟨this.1, this.2.imp id ?_⟩
        rintro ⟨g, cap, cur, p1, p2, p3⟩
        exact ⟨g, cap, cur, p1, by omega, p3⟩
      have b2 : w8.ownsRow (w.heap.size + 1) 129 3 (.slice y.ha y.hn y.hc) y.hn (flatT y.hols) := by
        rw [e2]
        have := hx.own2
        rw [e2] at this
        refine ⟨this.1, this.2.imp id ?_⟩
        rintro ⟨g, cap, cur, p1, p2, p3⟩
        exact ⟨g, cap, cur, p1, by omega, p3⟩
      exact HrsOk.grown (⟨b1.alloc o, b2.alloc o, hok⟩) (hv8.alloc o) hg
  · intro i hi
    simp at hi
    by_cases hl : i < l.length
    · rw [List.map_append, List.getElem?_append_left (by simpa using hl)]; exact h.keys i hl
    · obtain rfl : i = l.length := by omega
      rw [List.map_append, List.getElem?_append_right (by simp)]
      simp [hkey]
  · intro j hj
    have ne := own_ne hv8 (b := w.heap.size) (by omega)
    refine (grownB_cell hg (by simp; omega) ne j).trans ?_
    refine ((ext_alloc (Below.refl _ w8)).cell (p := ⟨w.heap.size, j, none⟩) (by show w.heap.size < _; omega)).trans ?_
    exact (hx.keeps.cell (p := ⟨w.heap.size, j, none⟩) z0 (by show w.heap.size ≠ S; omega)).trans (h.cell j hj)
  · exact hk8.grown hg (fun b e => by have := (hv8.lt _ e).1; omega)
  · exact hx.stream.upto (upto_grown hg (by omega) (fun b e => by have := (hv8.lt _ e).1; omega))
  · have := hg.size; simp at this; omega

theorem HoursAt.mono {S K K' : Nat} {w wr : World} {v : Value} {l : List Hrs} (h : HoursAt S K w wr v l) (hk : K ≤ K') : HoursAt S K' w wr v l := ⟨h.own, h.each, h.keys, h.cell, h.keeps, h.stream.mono hk, h.size⟩
theorem news_alloc (w : World) (cs : List Value) (ty : TypeId) : ∀ (j : Nat) u, cs[j]? = some u → (w.alloc (.cells cs.toArray ty)).cell? ((⟨w.heap.size, 0, none⟩ : Addr).add j) = some u := by
  intro j u hj
  rw [addr_add0]
  simpa using hj

theorem days_kept {X w9 : World} {base : Nat} {e t : TypeId} {size : Nat} {v : Value} {n : Nat} {xs : List Value} (h : X.ownsRow base e size v n xs) (hg : X.grownBy w9 v.ownBlock) {b : Nat} {cs : Array Value} (hb : X.heap[b]? = some (.cells cs t)) (hte : t ≠ e := by decide) : w9.heap[b]? = some (.cells cs t) := by
  refine (hg.block b (Array.getElem?_eq_some_iff.1 hb).1 (fun hv => ?_)).trans hb
  rcases h.2 with ⟨rfl, _⟩ | ⟨g, cap, cur, rfl, _, hg, _⟩
  · simp [Value.ownBlock] at hv
  · simp [Value.ownBlock] at hv
    subst hv
    rw [hg] at hb
    injection hb with hb
    injection hb with h1 h2
    exact hte h2.symm

theorem pick2 (S k b : Nat) (x0 x1 : Int) (P : Int → Prop) (w : World) (h : StreamOk w S k) (hk : k ≤ 1000000000) (hb : b < w.heap.size) (hS : b ≠ S) (h0 : w.cell? ⟨b, 0, none⟩ = some (.int .i64 x0)) (h1 : w.cell? ⟨b, 1, none⟩ = some (.int .i64 x1)) (p0 : P x0) (p1 : P x1) :
    Calls Tryz.prog 62 #[.pointer (some ⟨S, 0, none⟩), .slice (some ⟨b, 0, none⟩) 2 2] w (PickPost S (k + 1) P w) :=
  pick_any S k b 2 2 [x0, x1] P w h hk hb hS (by omega) (by omega) (fun i hi => by match i, hi with | 0, _ => exact h0 | 1, _ => exact h1) (fun i hi => by match i, hi with | 0, _ => exact p0 | 1, _ => exact p1)

set_option maxRecDepth 100000 in
set_option maxHeartbeats 8000000 in
theorem rightHours_any (S k : Nat) (w : World) (h : StreamOk w S k) (hk : k ≤ 1000000) :
    Calls Tryz.prog 19 #[.pointer (some ⟨S, 0, none⟩)] w (RightHoursPost S (k + 40) w) := by
  obtain ⟨i0, hi, hz0, hz1, hz2⟩ := info_parts Tryz.infoRow
  obtain ⟨i1, hj, hy0, hy1, hy2⟩ := info_parts Tryz.infoHoliday
  obtain ⟨i2, hh, hx0, hx1, hx2⟩ := info_parts Tryz.infoHours
  have hS := h.lt
  have H := Lib.hid h
  clear h
  go_enter Tryz.func19, Tryz.ntmps19
  go_wp2_with fail
  go_loopw [3, 13] (fun v it wr => ∃ (q : Nat) (l : List Hrs), q ≤ 2 ∧ it = .int .i64 q ∧ Hid (l.length = q) ∧ Hid (HoursAt S (k + 20 * q) w wr v l)) (fun _ it _ => 2 - (intOf it).toNat)
  case atStart =>
    refine ⟨0, [], Nat.zero_le _, rfl, rfl, ⟨World.ownsRow_nil _ _ _ _, (fun x hx => by cases hx), (fun i hi => by simp at hi), (fun j hj => ?_), Keeps.of_below (ext_alloc (Below.refl _ _)), H.out.below (ext_alloc (Below.refl _ _)), by simp⟩⟩
    match j, hj with
    | 0, _ => simp [hourKeys]
    | 1, _ => simp [hourKeys]
  case round =>
    obtain ⟨q, l, hq, rfl, HL, HT⟩ := hrel
    obtain ⟨w0, rfl⟩ : ∃ w0 : World, w0 = wr := ⟨_, rfl⟩
    have hv := HT.out.own
    by_cases hlt : q < 2
    · have ck := HT.out.cell q hlt
      have HKEY : Hid (hourKeys.getD q [] = hourKeys.getD l.length []) := by show _ = _; rw [HL.out]
      have zr := HT.out.size
      have HST := Lib.hid HT.out.stream
      clear hv
      generalize hourKeys.getD q [] = key at ck HKEY
      go_wp2_with fail
      refine (pick5 S (k + 20 * q) _ 0 0 60 (-90) 1440 (fun r => -1440 ≤ r ∧ r ≤ 1440) _ (HST.out.below (ext_alloc (Below.refl _ _))) (by omega) (by simp) (by simp; omega) (by go_simp) (by go_simp) (by go_simp) (by go_simp) (by go_simp) (by omega) (by omega) (by omega) (by omega) (by omega)).mono ?_
      rintro e w1 ⟨zone, rfl, ⟨z0, z1⟩, hst1, hkp1⟩
      have HK1 := Lib.hid (Keeps.trans (Keeps.of_below (ext_alloc (Below.refl _ w0))) hkp1)
      have HS1 := Lib.hid hst1
      have zw1 : w0.heap.size + 1 ≤ w1.heap.size := by have := hkp1.size; simp at this; omega
      clear hst1 hkp1
      go_wp2_with fail
      refine (range_any S (k + 20 * q + 1) 0 2 _ (HS1.out.below (ext_alloc (Below.refl _ _))) (by omega) (by omega) (by omega) (by omega)).mono ?_
      rintro e w2 ⟨m, rfl, m0, m1, hst2, hkp2⟩
      obtain ⟨m, rfl⟩ := Int.eq_ofNat_of_zero_le m0
      have zw2 : w1.heap.size + 1 ≤ w2.heap.size := by have := hkp2.size; simp at this; omega
      obtain ⟨k9, hk9⟩ : ∃ k9, k9 = k + 20 * q + 2 := ⟨_, rfl⟩
      have HK9 := Lib.hid hk9
      have k9le : k9 ≤ k + 20 * q + 2 := by omega
      have hTS : S < w1.heap.size := by omega
      have hT0 : w0.heap.size ≤ w1.heap.size := by omega
      have HP2 : Hid (HrAt S (k9 + 3 * 0) w1.heap.size w0 w2 key zone (.slice none 0 0) (.slice none 0 0) [] []) := by
        have cc := fun j => hkp2.cell (p := ⟨w1.heap.size, j, none⟩) (by simp) (by show w1.heap.size ≠ S; omega)
        refine ⟨(cc 0).trans (by go_simp), (cc 1).trans (by go_simp), (cc 2).trans (by go_simp), (cc 3).trans (by go_simp), fun j => (hkp2.frozen (p := ⟨w1.heap.size, j, none⟩) (by simp) (by show w1.heap.size ≠ S; omega)).trans (by go_simp), World.ownsRow_nil _ _ _ _, World.ownsRow_nil _ _ _ _, HK1.out.trans (Keeps.trans (Keeps.of_below (ext_alloc (Below.refl _ w1))) hkp2), ?_, by omega⟩
        have : k9 + 3 * 0 = k + 20 * q + 1 + 1 := by omega
        rw [this]; exact hst2
      clear hst2 hkp2 hk9 HST HS1 HK1
      go_wp2_with fail
      go_loopw [24] (fun it w4 => ∃ (p : Nat) (v1 : Value) (rows : List Tri), p ≤ m ∧ it = .int .i64 p ∧ Hid (rows.length = p) ∧ Hid (RowsGood rows) ∧ Hid (HrAt S (k9 + 3 * p) w1.heap.size w0 w4 key zone v1 (.slice none 0 0) rows [])) (fun it _ => m - (intOf it).toNat)
      case atStart => exact ⟨0, _, [], Nat.zero_le _, rfl, rfl, (fun x hx => by cases hx), HP2⟩
      case round =>
        obtain ⟨p, v1, rows, hp, rfl, HRL, HRG, HR⟩ := hrel
        have zT := HR.out.size
        by_cases hlp : p < m
        · have HSR := Lib.hid HR.out.stream
          go_wp2_with fail
          refine (pick4 S (k9 + 3 * p) _ 0 60 540 720 (fun r => 0 ≤ r ∧ r ≤ 720) _ (HSR.out.below (ext_alloc (Below.refl _ _))) (by omega) (by simp) (by simp; omega) (by go_simp) (by go_simp) (by go_simp) (by go_simp) (by omega) (by omega) (by omega) (by omega)).mono ?_
          rintro e w5 ⟨fr, rfl, ⟨fr0, fr1⟩, hst5, hkp5⟩
          have HS5 := Lib.hid hst5
          have HR5 := Lib.hid (HR.out.kept hTS (Keeps.trans (Keeps.of_below (ext_alloc (Below.refl _ _))) hkp5) hst5)
          have zT5 := HR5.out.size
          have C2 := Lib.hid HR5.out.c2
          have n5 : rows.length + 1 ≤ maxLen := by have := HRL.out; unfold maxLen; omega
          have N5 := Lib.hid n5
          have n6 : (rows.length + 1) * 24 ≤ 140737488355328 := by have := HRL.out; omega
          have N6 := Lib.hid n6
          clear hst5 hkp5 n5 n6
          go_wp2_with fail
          refine region_gen S (k9 + 3 * p + 1) 13 [.val (· = .pointer (some ⟨w1.heap.size, 2, none⟩)), .val (v1 = ·), .val (· = .pointer (some ⟨S, 0, none⟩)), .arr 6 (· = [.int .i64 127, .int .i64 31, .int .i64 1, .int .i64 64, .int .i64 32, .int .i64 5]), .val (fun x => ∃ r : Int, x = .int .i64 r ∧ (1 ≤ r ∧ r ≤ 127)), .val (.int .i64 fr = ·), .val (.int .i64 fr = ·), .val (· = .pointer (some ⟨S, 0, none⟩)), .arr 4 (· = [.int .i64 1, .int .i64 60, .int .i64 300, .int .i64 720]), .val (fun x => ∃ r : Int, x = .int .i64 r ∧ (1 ≤ r ∧ r ≤ 720)), .val (fun x => ∃ r : Int, x = .int .i64 (fr + r) ∧ (1 ≤ r ∧ r ≤ 720)), .val (fun v => ∃ x : Tri, (x.b = fr ∧ 1 ≤ x.a ∧ x.a ≤ 127 ∧ fr < x.c ∧ x.c ≤ fr + 720) ∧ v = .agg x.cells.toArray), .arr 1 (fun vs => ∃ x : Tri, (x.b = fr ∧ 1 ≤ x.a ∧ x.a ≤ 127 ∧ fr < x.c ∧ x.c ≤ fr + 720) ∧ vs = x.cells)] [4, 9] [some 29, some 30, some 31, some 32, some 33, some 34, some 35, some 36, some 37, some 38, some 39, some 40, some 41] (by kernel_rfl) (by kernel_rfl) (by kernel_rfl) (by kernel_rfl) rfl (by kernel_rfl) HS5.out ⟨?_, ?_, ?_, ?_, ?_, ?_, ?_, ?_, ?_, ?_, ?_, ?_, ?_, trivial⟩ ?_
          · intro a w' c hk hst hc hfr hdp K hK
            have f : a.tmps[6]?.getD undef = .pointer (some ⟨w1.heap.size, 0, none⟩) := slot_of (hfr 6 (by kernel_rfl))
            refine gen_pure (v := .pointer (some ⟨w1.heap.size, 2, none⟩)) ?_ (hK _ _ rfl (Keeps.refl _ _) hst)
            go_simp
          · intro a w' c hk hst hc hfr hdp K hK
            have d : a.tmps[29]?.getD undef = .pointer (some ⟨w1.heap.size, 2, none⟩) := slot_of (hdp 0 29 _ (by kernel_rfl) (by kernel_rfl) rfl)
            have cl : w'.cell? ⟨w1.heap.size, 2, none⟩ = some (v1) := (hk.cell (p := ⟨w1.heap.size, 2, none⟩) (by show w1.heap.size < w5.heap.size; omega) (by show w1.heap.size ≠ S; omega)).trans C2.out
            refine gen_pure (v := v1) ?_ (hK _ _ rfl (Keeps.refl _ _) hst)
            go_simp
          · intro a w' c hk hst hc hfr hdp K hK
            have f : a.tmps[0]?.getD undef = .pointer (some ⟨S, 0, none⟩) := slot_of (hfr 0 (by kernel_rfl))
            refine gen_pure (v := .pointer (some ⟨S, 0, none⟩)) ?_ (hK _ _ rfl (Keeps.refl _ _) hst)
            go_simp
          · intro a w' c hk hst hc hfr hdp K hK
            refine gen_alloc (p := (· = [.int .i64 127, .int .i64 31, .int .i64 1, .int .i64 64, .int .i64 32, .int .i64 5])) #[.int .i64 127, .int .i64 31, .int .i64 1, .int .i64 64, .int .i64 32, .int .i64 5] 3 ?_ rfl hst hK
            go_simp
          · intro a w' c hk hst hc hfr hdp K hK
            have d1 : a.tmps[31]?.getD undef = .pointer (some ⟨S, 0, none⟩) := slot_of (hdp 2 31 _ (by kernel_rfl) (by kernel_rfl) rfl)
            have d2 := hdp 3 32 _ (by kernel_rfl) (by kernel_rfl) rfl
            generalize hv2 : a.eval (.tmp 32) = v2 at d2
            have d3 := slot_of hv2
            clear hv2
            have hc2 : c + 1 ≤ 2 := hc
            refine gen_call 62 #[.pointer (some ⟨S, 0, none⟩), v2] ?_ (calls_pick S _ v2 [127, 31, 1, 64, 32, 5] (fun r => 1 ≤ r ∧ r ≤ 127) w' hst (by omega) d2 (by decide) (by decide) (by decide)) ?_
            · clear hK; go_simp
            rintro e w'' ⟨r, rfl, hr, hst2, hkp⟩
            exact ⟨_, rfl, hK _ _ ⟨r, rfl, hr⟩ hkp hst2⟩
          · intro a w' c hk hst hc hfr hdp K hK
            have f : a.tmps[7]?.getD undef = .int .i64 fr := slot_of (hfr 7 (by kernel_rfl))
            refine gen_pure (v := .int .i64 fr) ?_ (hK _ _ rfl (Keeps.refl _ _) hst)
            go_simp
          · intro a w' c hk hst hc hfr hdp K hK
            have f : a.tmps[7]?.getD undef = .int .i64 fr := slot_of (hfr 7 (by kernel_rfl))
            refine gen_pure (v := .int .i64 fr) ?_ (hK _ _ rfl (Keeps.refl _ _) hst)
            go_simp
          · intro a w' c hk hst hc hfr hdp K hK
            have f : a.tmps[0]?.getD undef = .pointer (some ⟨S, 0, none⟩) := slot_of (hfr 0 (by kernel_rfl))
            refine gen_pure (v := .pointer (some ⟨S, 0, none⟩)) ?_ (hK _ _ rfl (Keeps.refl _ _) hst)
            go_simp
          · intro a w' c hk hst hc hfr hdp K hK
            refine gen_alloc (p := (· = [.int .i64 1, .int .i64 60, .int .i64 300, .int .i64 720])) #[.int .i64 1, .int .i64 60, .int .i64 300, .int .i64 720] 3 ?_ rfl hst hK
            go_simp
          · intro a w' c hk hst hc hfr hdp K hK
            have d1 : a.tmps[36]?.getD undef = .pointer (some ⟨S, 0, none⟩) := slot_of (hdp 7 36 _ (by kernel_rfl) (by kernel_rfl) rfl)
            have d2 := hdp 8 37 _ (by kernel_rfl) (by kernel_rfl) rfl
            generalize hv2 : a.eval (.tmp 37) = v2 at d2
            have d3 := slot_of hv2
            clear hv2
            have hc2 : c + 1 ≤ 2 := hc
            refine gen_call 62 #[.pointer (some ⟨S, 0, none⟩), v2] ?_ (calls_pick S _ v2 [1, 60, 300, 720] (fun r => 1 ≤ r ∧ r ≤ 720) w' hst (by omega) d2 (by decide) (by decide) (by decide)) ?_
            · clear hK; go_simp
            rintro e w'' ⟨r, rfl, hr, hst2, hkp⟩
            exact ⟨_, rfl, hK _ _ ⟨r, rfl, hr⟩ hkp hst2⟩
          · intro a w' c hk hst hc hfr hdp K hK
            have d6 : a.tmps[35]?.getD undef = .int .i64 fr := slot_of (Eq.symm (hdp 6 35 _ (by kernel_rfl) (by kernel_rfl) rfl))
            obtain ⟨r, g3, r0, r1⟩ := hdp 9 38 _ (by kernel_rfl) (by kernel_rfl) rfl
            have s3 := slot_of g3
            have hwr : IntKind.i64.wrap (fr + r) = fr + r := IntWalk.i64_in _ (by omega)
            refine gen_pure (v := .int .i64 (fr + r)) ?_ (hK _ _ ⟨r, rfl, r0, r1⟩ (Keeps.refl _ _) hst)
            clear g3 hK
            go_simp
          · intro a w' c hk hst hc hfr hdp K hK
            obtain ⟨dy, g1, y0, y1⟩ := hdp 4 33 _ (by kernel_rfl) (by kernel_rfl) rfl
            have d5 : a.tmps[34]?.getD undef = .int .i64 fr := slot_of (Eq.symm (hdp 5 34 _ (by kernel_rfl) (by kernel_rfl) rfl))
            obtain ⟨r, g3, r0, r1⟩ := hdp 10 39 _ (by kernel_rfl) (by kernel_rfl) rfl
            have s1 := slot_of g1
            have s3 := slot_of g3
            refine gen_pure (v := .agg (Tri.cells ⟨dy, fr, fr + r⟩).toArray) ?_ (hK _ _ ⟨⟨dy, fr, fr + r⟩, ⟨rfl, y0, y1, by show fr < fr + r; omega, by show fr + r ≤ _; omega⟩, rfl⟩ (Keeps.refl _ _) hst)
            clear g1 g3 hK
            go_simp
            rfl
          · intro a w' c hk hst hc hfr hdp K hK
            obtain ⟨⟨xa, xb, xc⟩, hx, g3⟩ := hdp 11 40 _ (by kernel_rfl) (by kernel_rfl) rfl
            have s3 := slot_of g3
            refine gen_alloc (p := fun vs => ∃ x : Tri, (x.b = fr ∧ 1 ≤ x.a ∧ x.a ≤ 127 ∧ fr < x.c ∧ x.c ≤ fr + 720) ∧ vs = x.cells) (Tri.cells ⟨xa, xb, xc⟩).toArray 127 ?_ ⟨_, hx, rfl⟩ hst hK
            clear g3 hK hx
            simp only [Tri.cells] at s3 ⊢
            go_simp
          intro w8 hk8 hst8
          rintro _ rfl _ rfl _ rfl _ - _ - _ rfl _ rfl _ rfl _ - _ - _ - _ - _ ⟨gb, _, rfl, ⟨x, ⟨x0, x1, x2, x3, x4⟩, rfl⟩, hgb, hgl, hgc⟩
          simp only [ForVals, Act.put, List.setIfInBounds_toArray, List.set_cons_zero, List.set_cons_succ, List.drop_succ_cons, List.drop_zero]
          have hR8 := HR5.out.kept hTS (Keeps.trans (by exact Keeps.of_below (ext_drew (Below.refl _ _))) hk8) hst8
          have HR8 := Lib.hid hR8
          have o8 := hR8.own1
          have c8 := hR8.c2
          have f8 := hR8.fro 2
          have z8 := hR8.size
          have ag := own_ne o8 (b := w1.heap.size) (by omega)
          have HG8 : Hid (RowsGood (rows ++ [x])) := HRG.out.snoc ⟨by omega, by omega, by omega, by omega, by omega⟩
          clear hR8 hst8 hk8 x0 x1 x2 x3 x4
          refine wpList_append_own w8 rfl (.tmp 30) (.tmp 41) 122 rfl (w1.heap.size + 1) 127 i0 _ 3 24 Tryz.underlying122 hi hz0 hz1 hz2 rfl (by omega) v1 rows.length (flatT rows) rfl o8 ⟨gb, 0, none⟩ 1 1 x.cells rfl rfl (fun j u hj => by rw [addr_add0]; exact hgc j u hj) (by simp [Value.oneCell', Tri.cells]) N5.out N6.out (by omega) ?_
          intro v9 w9 hown9 hgr9 _
          obtain ⟨ga, gcap, rfl⟩ := own_slice hown9
          have c9 : w9.cell? ⟨w1.heap.size, 2, none⟩ = some v1 := (grownB_cell hgr9 z8 ag 2).trans c8
          have f9 : w9.frozen? ⟨w1.heap.size, 2, none⟩ = false := (grownB_frozen hgr9 z8 ag 2).trans f8
          have HN := Lib.hid (HR8.out.push1 hTS hT0 hgr9 hown9)
          clear hown9 hgr9 o8 c8 f8 hgc
          go_wp2_with fail
          go_roundw
          case rel => exact ⟨p + 1, _, rows ++ [x], by omega, by go_num, (by show _ = _; rw [List.length_append, HRL.out]; rfl), HG8, HN⟩
          case measure => simp [intOf]; omega
        · obtain rfl : p = m := by omega
          obtain ⟨w4, rfl⟩ : ∃ w4 : World, w4 = wr := ⟨_, rfl⟩
          obtain ⟨k8, hk8⟩ : ∃ k8, k8 = k9 + 3 * p := ⟨_, rfl⟩
          have k8le : k8 ≤ k + 20 * q + 8 := by omega
          rw [← hk8] at HR
          clear hk8
          have HR4 : Hid (HrAt S (k8 + 4 * 0) w1.heap.size w0 (w4.alloc (.cells #[.int .i64 0, .int .i64 2, .int .i64 3] 3)) key zone v1 (.slice none 0 0) rows []) := HR.out.kept hTS (Keeps.of_below (ext_alloc (Below.refl _ _))) (HR.out.stream.below (ext_alloc (Below.refl _ _)))
          go_wp2_with fail
          go_loopw [47] (fun it w6 => ∃ (d : Nat) (v2 : Value) (hols : List Tri), d ≤ 3 ∧ it = .int .i64 d ∧ Hid (hols.length ≤ d) ∧ Hid (HolsGood d hols) ∧ Hid (w6.heap[w4.heap.size]? = some (.cells #[.int .i64 0, .int .i64 2, .int .i64 3] 3)) ∧ Hid (HrAt S (k8 + 4 * d) w1.heap.size w0 w6 key zone v1 v2 rows hols)) (fun it _ => 3 - (intOf it).toNat)
          case atStart => exact ⟨0, _, [], Nat.zero_le _, rfl, Nat.le_refl _, ⟨(fun x hx => by cases hx), by simp⟩, heap_alloc_new _ _, HR4⟩
          case round =>
            obtain ⟨d, v2, hols, hd, rfl, HHL, HHG, HKW, HR6⟩ := hrel
            obtain ⟨w6, rfl⟩ : ∃ w6 : World, w6 = wr := ⟨_, rfl⟩
            have z6 := HR6.out.size
            have z64 : w4.heap.size + 1 ≤ w6.heap.size := (Array.getElem?_eq_some_iff.1 HKW.out).1
            by_cases hld : d < 3
            · have cd : w6.cell? ⟨w4.heap.size, d, none⟩ = some (.int .i64 (([0, 2, 3] : List Int).getD d 0)) := by
                have hh := HKW.out
                match d, hld with
                | 0, _ => simp [World.cell?, hh]
                | 1, _ => simp [World.cell?, hh]
                | 2, _ => simp [World.cell?, hh]
              have HDAY : Hid (∃ day, day = ([0, 2, 3] : List Int).getD d 0) := ⟨_, rfl⟩
              obtain ⟨day, hday⟩ := HDAY.out
              have HDY := Lib.hid hday
              rw [← hday] at cd
              clear hday
              have HSR := Lib.hid HR6.out.stream
              have n5 : hols.length + 1 ≤ maxLen := by have := HHL.out; unfold maxLen; omega
              have N5 := Lib.hid n5
              have n6 : (hols.length + 1) * 24 ≤ 140737488355328 := by have := HHL.out; omega
              have N6 := Lib.hid n6
              clear n5 n6
              go_wp2_with fail
              refine (flip_any S (k8 + 4 * d) 3 _ HSR.out (by omega) (by omega) (by omega)).mono ?_
              rintro e w7 ⟨r, rfl, hst7, hkp7⟩
              have HR7 := Lib.hid (HR6.out.kept hTS hkp7 hst7)
              have HKW7 := Lib.hid ((hkp7.block w4.heap.size (by omega) (by omega)).trans HKW.out)
              have HS7 := Lib.hid hst7
              have z7 : w6.heap.size ≤ w7.heap.size := hkp7.size
              clear hst7 hkp7
              cases r with
              | false =>
                go_wp2_with fail
                go_roundw
                case rel => exact ⟨d + 1, v2, hols, by omega, by go_num, (by have := HHL.out; show _ ≤ _; omega), HHG.out.skip, HKW7, HR7.out.kept hTS (Keeps.refl _ _) (HS7.out.mono (by omega))⟩
                case measure => simp [intOf]; omega
              | true =>
                go_wp2_with fail
                refine (flip_any S (k8 + 4 * d + 1) 2 _ (HS7.out.below (ext_alloc (Below.refl _ _))) (by omega) (by omega) (by omega)).mono ?_
                rintro e w8 ⟨r2, rfl, hst8, hkp8⟩
                have HR8 := Lib.hid (HR7.out.kept hTS (Keeps.trans (Keeps.of_below (ext_alloc (Below.refl _ _))) hkp8) hst8)
                have HKW8 := Lib.hid ((hkp8.block w4.heap.size (by simp; omega) (by omega)).trans ((Below.heap_alloc _ _ _ (by omega)).trans HKW7.out))
                have HS8 := Lib.hid hst8
                have z8 : w7.heap.size + 1 ≤ w8.heap.size := by have := hkp8.size; simp at this; omega
                have NE : Hid (v1.ownBlock ≠ some w7.heap.size ∧ v2.ownBlock ≠ some w7.heap.size ∧ w7.heap.size ≠ w1.heap.size) := ⟨fun e => by have := (HR7.out.own1.lt _ e).2; omega, fun e => by have := (HR7.out.own2.lt _ e).2; omega, by omega⟩
                have xc := fun j => hkp8.cell (p := ⟨w7.heap.size, j, none⟩) (by simp) (by show w7.heap.size ≠ S; omega)
                have xf := fun j => hkp8.frozen (p := ⟨w7.heap.size, j, none⟩) (by simp) (by show w7.heap.size ≠ S; omega)
                have x0 := (xc 0).trans (show _ = some (.int .i64 day) by go_simp)
                have x1 := (xc 1).trans (show _ = some (.int .i64 0) by go_simp)
                have x2 := (xc 2).trans (show _ = some (.int .i64 0) by go_simp)
                have y1 := (xf 1).trans (show _ = false by go_simp)
                have y2 := (xf 2).trans (show _ = false by go_simp)
                clear hst8 hkp8 xc xf
                cases r2 with
                | false =>
                  have HR9 : Hid (HrAt S (k8 + 4 * (d + 1)) w1.heap.size w0 (w8.alloc (.cells #[.int .i64 day, .int .i64 0, .int .i64 0] 129)) key zone v1 v2 rows hols) := HR8.out.kept hTS (Keeps.of_below (ext_alloc (Below.refl _ _))) ((HR8.out.stream.below (ext_alloc (Below.refl _ _))).mono (by omega))
                  have t3 := HR8.out.c3
                  have zT8 := HR8.out.size
                  go_wp2_with (at_builtin; refine wpList_append_own _ rfl (.tmp 67) (.tmp 69) 123 rfl (w1.heap.size + 1) 129 i1 _ 3 24 Tryz.underlying123 hj hy0 hy1 hy2 rfl (by omega) v2 hols.length (flatT hols) rfl HR9.out.own2 ⟨w8.heap.size, 0, none⟩ 1 1 (Tri.cells ⟨day, 0, 0⟩) rfl rfl (news_alloc _ _ _) (by simp [Value.oneCell', Tri.cells]) N5.out N6.out (by simp; omega) ?_; intro v9 w9 hown9 hgr9 _; obtain ⟨ga, gcap, rfl⟩ := own_slice hown9; have c9 : w9.cell? ⟨w1.heap.size, 3, none⟩ = some v2 := (grownB_cell hgr9 (by simp; omega) (own_ne HR9.out.own2 (by omega)) 3).trans HR9.out.c3; have f9 : w9.frozen? ⟨w1.heap.size, 3, none⟩ = false := (grownB_frozen hgr9 (by simp; omega) (own_ne HR9.out.own2 (by omega)) 3).trans (HR9.out.fro 3))
                  have HN := Lib.hid (HR9.out.push2 hTS hT0 hgr9 hown9)
                  have HKW9 : Hid (w9.heap[w4.heap.size]? = some (.cells #[.int .i64 0, .int .i64 2, .int .i64 3] 3)) := days_kept HR9.out.own2 hgr9 ((Below.heap_alloc _ _ _ (by omega)).trans HKW8.out)
                  have HHN : Hid (HolsGood (d + 1) (hols ++ [⟨day, 0, 0⟩])) := HHG.out.snoc hld HDY.out (Or.inl ⟨rfl, rfl⟩)
                  clear hown9 hgr9
                  go_wp2_with fail
                  go_roundw
                  case rel => exact ⟨d + 1, _, hols ++ [⟨day, 0, 0⟩], by omega, by go_num, (by have := HHL.out; show _ ≤ _; simp; omega), HHN, (by show _ = _; rw [Below.heap_setCell _ _ _ _ (by show w4.heap.size ≠ w1.heap.size; omega)]; exact HKW9.out), HN⟩
                  case measure => simp [intOf]; omega
                | true =>
                  go_wp2_with fail
                  refine (pick2 S (k8 + 4 * d + 1 + 1) _ 0 540 (fun r => 0 ≤ r ∧ r ≤ 540) _ (HS8.out.below (ext_alloc (Below.refl _ _))) (by omega) (by simp) (by simp; omega) (by go_simp) (by go_simp) (by omega) (by omega)).mono ?_
                  rintro e wa ⟨fa, rfl, ⟨fa0, fa1⟩, hsta, hkpa⟩
                  have HRa := Lib.hid (HR8.out.kept hTS (Keeps.trans (Keeps.of_below (ext_alloc (Below.refl _ _))) hkpa) hsta)
                  have HKWa := Lib.hid ((hkpa.block w4.heap.size (by simp; omega) (by omega)).trans ((Below.heap_alloc _ _ _ (by omega)).trans HKW8.out))
                  have HSa := Lib.hid hsta
                  have za : w8.heap.size + 1 ≤ wa.heap.size := by have := hkpa.size; simp at this; omega
                  have ka := Keeps.trans (Keeps.of_below (ext_alloc (Below.refl _ w8))) hkpa
                  have HKA := Lib.hid ka
                  clear hsta hkpa ka
                  go_wp2_with fail
                  refine (pick2 S (k8 + 4 * d + 1 + 1 + 1) _ 600 1440 (fun r => 600 ≤ r ∧ r ≤ 1440) _ (HSa.out.below (ext_alloc (Below.refl _ _))) (by omega) (by simp) (by simp; omega) (by go_simp) (by go_simp) (by omega) (by omega)).mono ?_
                  rintro e wb ⟨fb, rfl, ⟨fb0, fb1⟩, hstb, hkpb⟩
                  have HRb := Lib.hid (HRa.out.kept hTS (Keeps.trans (Keeps.of_below (ext_alloc (Below.refl _ _))) hkpb) hstb)
                  have HKWb := Lib.hid ((hkpb.block w4.heap.size (by simp; omega) (by omega)).trans ((Below.heap_alloc _ _ _ (by omega)).trans HKWa.out))
                  have zb : wa.heap.size + 1 ≤ wb.heap.size := by have := hkpb.size; simp at this; omega
                  have kb := HKA.out.trans (Keeps.trans (Keeps.of_below (ext_alloc (Below.refl _ wa))) hkpb)
                  have q0 := (kb.cell (p := ⟨w7.heap.size, 0, none⟩) (by show w7.heap.size < _; omega) (by show w7.heap.size ≠ S; omega)).trans x0
                  have q1 := (kb.cell (p := ⟨w7.heap.size, 1, none⟩) (by show w7.heap.size < _; omega) (by show w7.heap.size ≠ S; omega)).trans x1
                  have q2 := (kb.cell (p := ⟨w7.heap.size, 2, none⟩) (by show w7.heap.size < _; omega) (by show w7.heap.size ≠ S; omega)).trans x2
                  have p1 := (kb.frozen (p := ⟨w7.heap.size, 1, none⟩) (by show w7.heap.size < _; omega) (by show w7.heap.size ≠ S; omega)).trans y1
                  have p2 := (kb.frozen (p := ⟨w7.heap.size, 2, none⟩) (by show w7.heap.size < _; omega) (by show w7.heap.size ≠ S; omega)).trans y2
                  clear hstb hkpb kb HKA x0 x1 x2 y1 y2
                  have HRc : Hid (HrAt S (k8 + 4 * (d + 1)) w1.heap.size w0 ((wb.setCell ⟨w7.heap.size, 1, none⟩ (.int .i64 fa)).setCell ⟨w7.heap.size, 2, none⟩ (.int .i64 fb)) key zone v1 v2 rows hols) := ((HRb.out.kept hTS (Keeps.refl _ _) (HRb.out.stream.mono (by omega))).setOther (p := ⟨w7.heap.size, 1, none⟩) (by show _ ≤ w7.heap.size; omega) (by show _ < w7.heap.size; omega) NE.out.2.2 NE.out.1 NE.out.2.1 _).setOther (p := ⟨w7.heap.size, 2, none⟩) (by show _ ≤ w7.heap.size; omega) (by show _ < w7.heap.size; omega) NE.out.2.2 NE.out.1 NE.out.2.1 _
                  have HKWc : Hid (((wb.setCell ⟨w7.heap.size, 1, none⟩ (.int .i64 fa)).setCell ⟨w7.heap.size, 2, none⟩ (.int .i64 fb)).heap[w4.heap.size]? = some (.cells #[.int .i64 0, .int .i64 2, .int .i64 3] 3)) := by
                    show _ = _
                    rw [Below.heap_setCell _ _ _ _ (by show w4.heap.size ≠ w7.heap.size; omega), Below.heap_setCell _ _ _ _ (by show w4.heap.size ≠ w7.heap.size; omega)]
                    exact HKWb.out
                  have r0 : ((wb.setCell ⟨w7.heap.size, 1, none⟩ (.int .i64 fa)).setCell ⟨w7.heap.size, 2, none⟩ (.int .i64 fb)).cell? ⟨w7.heap.size, 0, none⟩ = some (.int .i64 day) := (World.cell?_setCell_other _ _ _ _ (by simp)).trans ((World.cell?_setCell_other _ _ _ _ (by simp)).trans q0)
                  have r1 : ((wb.setCell ⟨w7.heap.size, 1, none⟩ (.int .i64 fa)).setCell ⟨w7.heap.size, 2, none⟩ (.int .i64 fb)).cell? ⟨w7.heap.size, 1, none⟩ = some (.int .i64 fa) := (World.cell?_setCell_other _ _ _ _ (by simp)).trans (World.cell?_setCell_same _ _ _ q1)
                  have r2 : ((wb.setCell ⟨w7.heap.size, 1, none⟩ (.int .i64 fa)).setCell ⟨w7.heap.size, 2, none⟩ (.int .i64 fb)).cell? ⟨w7.heap.size, 2, none⟩ = some (.int .i64 fb) := World.cell?_setCell_same _ _ _ ((World.cell?_setCell_other _ _ _ _ (by simp)).trans q2)
                  have hsz : ((wb.setCell ⟨w7.heap.size, 1, none⟩ (.int .i64 fa)).setCell ⟨w7.heap.size, 2, none⟩ (.int .i64 fb)).heap.size = wb.heap.size := by simp
                  have zc : w1.heap.size < ((wb.setCell ⟨w7.heap.size, 1, none⟩ (.int .i64 fa)).setCell ⟨w7.heap.size, 2, none⟩ (.int .i64 fb)).heap.size := HRc.out.size
                  have zc4 : w4.heap.size < ((wb.setCell ⟨w7.heap.size, 1, none⟩ (.int .i64 fa)).setCell ⟨w7.heap.size, 2, none⟩ (.int .i64 fb)).heap.size := by rw [hsz]; omega
                  clear hsz
                  go_upto_region 18 with (fail)
                  clear q0 q1 q2 p1 p2
                  generalize (wb.setCell ⟨w7.heap.size, 1, none⟩ (.int .i64 fa)).setCell ⟨w7.heap.size, 2, none⟩ (.int .i64 fb) = wc at HRc HKWc r0 r1 r2 zc zc4 ⊢
                  have HRd : Hid (HrAt S (k8 + 4 * (d + 1)) w1.heap.size w0 (wc.alloc (.cells #[.int .i64 day, .int .i64 fa, .int .i64 fb] 129)) key zone v1 v2 rows hols) := HRc.out.kept hTS (Keeps.of_below (ext_alloc (Below.refl _ _))) (HRc.out.stream.below (ext_alloc (Below.refl _ _)))
                  have t3 := HRc.out.c3
                  go_wp2_with (at_builtin; refine wpList_append_own _ rfl (.tmp 67) (.tmp 69) 123 rfl (w1.heap.size + 1) 129 i1 _ 3 24 Tryz.underlying123 hj hy0 hy1 hy2 rfl (by omega) v2 hols.length (flatT hols) rfl HRd.out.own2 ⟨wc.heap.size, 0, none⟩ 1 1 (Tri.cells ⟨day, fa, fb⟩) rfl rfl (news_alloc _ _ _) (by simp [Value.oneCell', Tri.cells]) N5.out N6.out (by simp; omega) ?_; intro v9 w9 hown9 hgr9 _; obtain ⟨ga, gcap, rfl⟩ := own_slice hown9; have c9 : w9.cell? ⟨w1.heap.size, 3, none⟩ = some v2 := (grownB_cell hgr9 (by simp; omega) (own_ne HRd.out.own2 (by omega)) 3).trans HRd.out.c3; have f9 : w9.frozen? ⟨w1.heap.size, 3, none⟩ = false := (grownB_frozen hgr9 (by simp; omega) (own_ne HRd.out.own2 (by omega)) 3).trans (HRd.out.fro 3))
                  have HN := Lib.hid (HRd.out.push2 hTS hT0 hgr9 hown9)
                  have HKW9 : Hid (w9.heap[w4.heap.size]? = some (.cells #[.int .i64 0, .int .i64 2, .int .i64 3] 3)) := days_kept HRd.out.own2 hgr9 ((Below.heap_alloc _ _ _ (by omega)).trans HKWc.out)
                  have HHN : Hid (HolsGood (d + 1) (hols ++ [⟨day, fa, fb⟩])) := HHG.out.snoc hld HDY.out (Or.inr ⟨by show 0 ≤ fa; omega, by show fa < fb; omega, by show fb ≤ 1440; omega⟩)
                  clear hown9 hgr9
                  go_wp2_with fail
                  go_roundw
                  case rel => exact ⟨d + 1, _, hols ++ [⟨day, fa, fb⟩], by omega, by go_num, (by have := HHL.out; show _ ≤ _; simp; omega), HHN, (by show _ = _; rw [Below.heap_setCell _ _ _ _ (by show w4.heap.size ≠ w1.heap.size; omega)]; exact HKW9.out), HN⟩
                  case measure => simp [intOf]; omega
            · obtain rfl : d = 3 := by omega
              obtain ⟨a1, cp1, rfl⟩ := own_slice HR6.out.own1
              obtain ⟨a2, cp2, rfl⟩ := own_slice HR6.out.own2
              have t0 := HR6.out.c0
              have t1 := HR6.out.c1
              have t2 := HR6.out.c2
              have t3 := HR6.out.c3
              have HGD : Hid (HoursOk zone rows hols) := hours_good z0 z1 HRG.out (by have := HRL.out; omega) HHG.out (by omega)
              have HV6 := Lib.hid (own_keeps HT.out.own HR6.out.keeps (by omega))
              have n5 : l.length + 1 ≤ maxLen := by have := HL.out; unfold maxLen; omega
              have N5 := Lib.hid n5
              have n6 : (l.length + 1) * 72 ≤ 140737488355328 := by have := HL.out; omega
              have N6 := Lib.hid n6
              have z60 := HR6.out.keeps.size
              clear n5 n6
              go_wp2_with (at_builtin; refine wpList_append_own _ rfl (.tmp 73) (.tmp 75) 27 rfl (w.heap.size + 1) 125 i2 _ 4 72 Tryz.underlying27 hh hx0 hx1 hx2 rfl (by omega) u3 l.length (l.flatMap Hrs.cells) rfl (HV6.out.alloc _) ⟨w6.heap.size, 0, none⟩ 1 1 (Hrs.cells ⟨key, zone, a1, rows.length, cp1, a2, hols.length, cp2, rows, hols⟩) rfl rfl (news_alloc _ _ _) (by simp [Value.oneCell', Hrs.cells]) N5.out N6.out (by simp; omega) ?_; intro v9 w9 hown9 hgr9 _)
              have HN := Lib.hid (HT.out.push (x := ⟨key, zone, a1, rows.length, cp1, a2, hols.length, cp2, rows, hols⟩) hS hT0 HR6.out HGD.out rfl rfl HKEY.out hgr9 hown9)
              clear hown9 hgr9
              go_roundw
              case rel => exact ⟨q + 1, _, by omega, by go_num, (by show _ = _; rw [List.length_append, HL.out]; rfl), HN.out.mono (by omega)⟩
              case measure => simp [intOf]; omega
    · obtain rfl : q = 2 := by omega
      go_wp2_with fail
      go_ret
      exact ⟨_, l, rfl, HL.out, HT.out⟩
end Go.Proofs.YtkdadbpajhdelaaGreatDoor

set_option linter.unusedVariables false
set_option linter.unusedSimpArgs false
namespace Go.Proofs.YtkdadbpajhdelaaGreatDoor
open Go.RowKit

theorem Cells.at1 {w : World} {sz : Nat} {a : Option Addr} {n : Nat} {α : Type} {f : α → List Value} {l : List α} (h : Cells w sz a n (l.map f)) (z : α) (hn : 0 < n) : ∃ b off, a = some ⟨b, off, none⟩ ∧ b < w.heap.size ∧ ∀ i, i < n → ∀ j, j < sz → w.cell? ⟨b, off + i * sz + j, none⟩ = (f (l.getD i z))[j]? := by
  rcases h.row with h0 | ⟨b, off, ha, hb, hc⟩
  · omega
  · refine ⟨b, off, ha, hb, fun i hi j hj => ?_⟩
    have hl := h.len
    rw [List.length_map] at hl
    rw [hc i hi j hj, getD_map f l i z [] (by omega)]
theorem Cells.len1 {w : World} {sz : Nat} {a : Option Addr} {n : Nat} {α : Type} {f : α → List Value} {l : List α} (h : Cells w sz a n (l.map f)) : n = l.length := by
  have := h.len
  rwa [List.length_map] at this
structure RuleRow (w : World) (a : Option Addr) (n : Nat) (l : List DRule) : Prop where
  cells : Cells w 6 a n (l.map DRule.cells)
  few : n ≤ 10
  each : ∀ i, i < l.length → DRuleOk (l.getD i noDRule)
theorem RuleRow.below {w w' : World} {a : Option Addr} {n : Nat} {l : List DRule} (h : RuleRow w a n l) (hb : Below w.heap.size w w') : RuleRow w' a n l := ⟨h.cells.below hb, h.few, h.each⟩
theorem RuleRow.len {w : World} {a : Option Addr} {n : Nat} {l : List DRule} (h : RuleRow w a n l) : n = l.length := h.cells.len1
theorem RuleRow.at {w : World} {a : Option Addr} {n : Nat} {l : List DRule} (h : RuleRow w a n l) (hn : 0 < n) : ∃ b off, a = some ⟨b, off, none⟩ ∧ b < w.heap.size ∧ ∀ i, i < n → w.cell? ⟨b, off + i * 6, none⟩ = some (.string ⟨(l.getD i noDRule).els.str.toArray⟩) ∧ w.cell? ⟨b, off + i * 6 + 1, none⟩ = some (.int .i64 (l.getD i noDRule).strip) ∧ w.cell? ⟨b, off + i * 6 + 2, none⟩ = some (.string ⟨(l.getD i noDRule).pre.toArray⟩) ∧ w.cell? ⟨b, off + i * 6 + 3, none⟩ = some (.int .i64 (l.getD i noDRule).to_) ∧ w.cell? ⟨b, off + i * 6 + 4, none⟩ = some (.string ⟨(l.getD i noDRule).name.toArray⟩) ∧ w.cell? ⟨b, off + i * 6 + 5, none⟩ = some (.string ⟨(l.getD i noDRule).hours.toArray⟩) := by
  obtain ⟨b, off, ha, hb, hc⟩ := h.cells.at1 noDRule hn
  exact ⟨b, off, ha, hb, fun i hi => ⟨hc i hi 0 (by decide), hc i hi 1 (by decide), hc i hi 2 (by decide), hc i hi 3 (by decide), hc i hi 4 (by decide), hc i hi 5 (by decide)⟩⟩
def noHrs : Hrs := ⟨[], 0, none, 0, 0, none, 0, 0, [], []⟩
structure HrsRow (w : World) (a : Option Addr) (n : Nat) (l : List Hrs) : Prop where
  cells : Cells w 4 a n (l.map Hrs.cells)
  two : l.length = 2
  rows : ∀ i, i < 2 → TriRow w (l.getD i noHrs).ra (l.getD i noHrs).rn (l.getD i noHrs).rows
  hols : ∀ i, i < 2 → TriRow w (l.getD i noHrs).ha (l.getD i noHrs).hn (l.getD i noHrs).hols
  ok : ∀ i, i < 2 → HoursOk (l.getD i noHrs).zone (l.getD i noHrs).rows (l.getD i noHrs).hols
  keys : ∀ i, i < 2 → (l.getD i noHrs).key = hourKeys.getD i []
theorem HrsRow.below {w w' : World} {a : Option Addr} {n : Nat} {l : List Hrs} (h : HrsRow w a n l) (hb : Below w.heap.size w w') : HrsRow w' a n l := ⟨h.cells.below hb, h.two, fun i hi => (h.rows i hi).below hb, fun i hi => (h.hols i hi).below hb, h.ok, h.keys⟩
theorem HrsRow.len {w : World} {a : Option Addr} {n : Nat} {l : List Hrs} (h : HrsRow w a n l) : n = 2 := by rw [h.cells.len1, h.two]
theorem HrsRow.at {w : World} {a : Option Addr} {n : Nat} {l : List Hrs} (h : HrsRow w a n l) : ∃ b off, a = some ⟨b, off, none⟩ ∧ b < w.heap.size ∧ ∀ i, i < 2 → w.cell? ⟨b, off + i * 4, none⟩ = some (.string ⟨(hourKeys.getD i []).toArray⟩) ∧ w.cell? ⟨b, off + i * 4 + 1, none⟩ = some (.int .i64 (l.getD i noHrs).zone) ∧ w.cell? ⟨b, off + i * 4 + 2, none⟩ = some (.slice (l.getD i noHrs).ra (l.getD i noHrs).rn (l.getD i noHrs).rc) ∧ w.cell? ⟨b, off + i * 4 + 3, none⟩ = some (.slice (l.getD i noHrs).ha (l.getD i noHrs).hn (l.getD i noHrs).hc) := by
  have hl := h.len
  obtain ⟨b, off, ha, hb, hc⟩ := h.cells.at1 noHrs (by omega)
  refine ⟨b, off, ha, hb, fun i hi => ⟨?_, hc i (by omega) 1 (by decide), hc i (by omega) 2 (by decide), hc i (by omega) 3 (by decide)⟩⟩
  rw [← h.keys i hi]
  exact hc i (by omega) 0 (by decide)
def incV (j : Nat) : List Value := [.string ⟨(ctxKey j).toArray⟩]
structure DCtxFine (w : World) (c : DCtx) : Prop where
  rules : RuleRow w c.ra c.rn c.rules
  cap : c.rn ≤ c.rc
  incs : Cells w 1 c.ia c.inn (c.incs.map incV)
  icap : c.inn ≤ c.ic
  once : ∀ j k, j < k → k < c.rules.length → ¬ ((c.rules.getD j noDRule).els.str = (c.rules.getD k noDRule).els.str ∧ (c.rules.getD j noDRule).hours = (c.rules.getD k noDRule).hours)
theorem DCtxFine.below {w w' : World} {c : DCtx} (h : DCtxFine w c) (hb : Below w.heap.size w w') : DCtxFine w' c := ⟨h.rules.below hb, h.cap, h.incs.below hb, h.icap, h.once⟩
theorem DCtxFine.ilen {w : World} {c : DCtx} (h : DCtxFine w c) : c.inn = c.incs.length := h.incs.len1
theorem DCtxFine.inc {w : World} {c : DCtx} (h : DCtxFine w c) (hn : 0 < c.inn) : ∃ b off, c.ia = some ⟨b, off, none⟩ ∧ b < w.heap.size ∧ ∀ i, i < c.inn → w.cell? ⟨b, off + i, none⟩ = some (.string ⟨(ctxKey (c.incs.getD i 0)).toArray⟩) := by
  obtain ⟨b, off, ha, hb, hc⟩ := h.incs.at1 0 hn
  refine ⟨b, off, ha, hb, fun i hi => ?_⟩
  have := hc i hi 0 (by decide)
  rw [Nat.mul_one, Nat.add_zero] at this
  exact this
/-- A plan, with its place in memory. -/
structure DPlan where
  ca : Option Addr
  cn : Nat
  cc : Nat
  ctxs : List DCtx
  ha : Option Addr
  hn : Nat
  hc : Nat
  hrs : List Hrs
def DPlan.cells (p : DPlan) : List Value := [.slice p.ca p.cn p.cc, .slice p.ha p.hn p.hc]
structure DPlanFine (w : World) (p : DPlan) : Prop where
  cells : Cells w 3 p.ca p.cn (p.ctxs.map DCtx.cells)
  three : p.ctxs.length = 3
  cap : p.cn ≤ p.cc
  each : ∀ i, i < 3 → DCtxFine w (p.ctxs.getD i noDCtx)
  keys : ∀ i, i < 3 → (p.ctxs.getD i noDCtx).key = ctxKey i
  incs : ∀ i, i < 3 → (∀ j ∈ (p.ctxs.getD i noDCtx).incs, i < j ∧ j < 3) ∧ (p.ctxs.getD i noDCtx).incs.Nodup ∧ (p.ctxs.getD i noDCtx).incs.length ≤ 2
  hours : HrsRow w p.ha p.hn p.hrs
  hcap : p.hn ≤ p.hc
theorem DPlanFine.below {w w' : World} {p : DPlan} (h : DPlanFine w p) (hb : Below w.heap.size w w') : DPlanFine w' p := ⟨h.cells.below hb, h.three, h.cap, fun i hi => (h.each i hi).below hb, h.keys, h.incs, h.hours.below hb, h.hcap⟩
theorem DPlanFine.len {w : World} {p : DPlan} (h : DPlanFine w p) : p.cn = 3 := by rw [h.cells.len1, h.three]
theorem DPlanFine.at {w : World} {p : DPlan} (h : DPlanFine w p) : ∃ b off, p.ca = some ⟨b, off, none⟩ ∧ b < w.heap.size ∧ ∀ i, i < 3 → w.cell? ⟨b, off + i * 3, none⟩ = some (.string ⟨(ctxKey i).toArray⟩) ∧ w.cell? ⟨b, off + i * 3 + 1, none⟩ = some (.slice (p.ctxs.getD i noDCtx).ra (p.ctxs.getD i noDCtx).rn (p.ctxs.getD i noDCtx).rc) ∧ w.cell? ⟨b, off + i * 3 + 2, none⟩ = some (.slice (p.ctxs.getD i noDCtx).ia (p.ctxs.getD i noDCtx).inn (p.ctxs.getD i noDCtx).ic) := by
  have hl := h.len
  obtain ⟨b, off, ha, hb, hc⟩ := h.cells.at1 noDCtx (by omega)
  refine ⟨b, off, ha, hb, fun i hi => ⟨?_, hc i (by omega) 1 (by decide), hc i (by omega) 2 (by decide)⟩⟩
  rw [← h.keys i hi]
  exact hc i (by omega) 0 (by decide)
end Go.Proofs.YtkdadbpajhdelaaGreatDoor

set_option linter.unusedVariables false
set_option linter.unusedSimpArgs false
namespace Go.Proofs.YtkdadbpajhdelaaGreatDoor
open Go.RowKit Go.Lib

instance : Inhabited DCtx := ⟨noDCtx⟩
instance : Inhabited Hrs := ⟨noHrs⟩
instance : Inhabited DRule := ⟨noDRule⟩
theorem bang_is {α : Type} [Inhabited α] {l : List α} {j : Nat} (h : j < l.length) : l[j]! = l.getD j default := by
  simp [List.getD_eq_getElem?_getD, h]
theorem cells_bang {w : World} {sz b off n : Nat} {α : Type} [Inhabited α] {f : α → List Value} {l : List α} (hl : n = l.length) (hf : ∀ x, (f x).length = sz) (hc : ∀ i, i < n → ∀ j, j < sz → w.cell? ⟨b, off + i * sz + j, none⟩ = (f (l.getD i default))[j]?) : ∀ j, j < l.length → ∀ i v, (f l[j]!)[i]? = some v → w.cell? ⟨b, off + j * sz + i, none⟩ = some v := by
  intro j hj i v hv
  rw [bang_is hj] at hv
  have hi : i < sz := by
    have := (List.getElem?_eq_some_iff.1 hv).1
    rwa [hf] at this
  rw [hc j (by omega) i hi, hv]
theorem idxX_any (g : Nat) (lb : Array Value) (eg : ∀ args w, (callFunc g args).run Tryz.prog w = .ok (.enter g args) w) (w : World) (a : Option Addr) (n cap : Nat) (l : List DCtx) (h : Cells w 3 a n (l.map DCtx.cells)) (hn : 0 < n) (hm : n ≤ 1000) (p : DCtx → Bool) (hp : PredBelow Tryz.prog g lb (fun x : DCtx => .agg (DCtx.cells x).toArray) p w) :
    Calls Tryz.prog 146 #[.slice a n cap, .func (.func g) #[] lb] w fun e w' => e = .returned (.int .i64 (Lib.idxBy (fun _ y => p y) l default)) ∧ Below w.heap.size w w' := by
  have hl := h.len1
  obtain ⟨b, off, rfl, hb, hc⟩ := h.at1 default hn
  have := Tryz.slices_idxX DCtx.cells (fun _ => rfl) p g lb eg b off n cap l w hp (by omega) (by omega) hb (cells_bang hl (fun _ => rfl) hc)
  rw [List.take_of_length_le (by omega)] at this
  exact this
theorem idxY_any (g : Nat) (lb : Array Value) (eg : ∀ args w, (callFunc g args).run Tryz.prog w = .ok (.enter g args) w) (w : World) (a : Option Addr) (n cap : Nat) (l : List Hrs) (h : Cells w 4 a n (l.map Hrs.cells)) (hn : 0 < n) (hm : n ≤ 1000) (p : Hrs → Bool) (hp : PredBelow Tryz.prog g lb (fun x : Hrs => .agg (Hrs.cells x).toArray) p w) :
    Calls Tryz.prog 129 #[.slice a n cap, .func (.func g) #[] lb] w fun e w' => e = .returned (.int .i64 (Lib.idxBy (fun _ y => p y) l default)) ∧ Below w.heap.size w w' := by
  have hl := h.len1
  obtain ⟨b, off, rfl, hb, hc⟩ := h.at1 default hn
  have := Tryz.slices_idxY Hrs.cells (fun _ => rfl) p g lb eg b off n cap l w hp (by omega) (by omega) hb (cells_bang hl (fun _ => rfl) hc)
  rw [List.take_of_length_le (by omega)] at this
  exact this
theorem idxZ_any (g : Nat) (lb : Array Value) (eg : ∀ args w, (callFunc g args).run Tryz.prog w = .ok (.enter g args) w) (w : World) (a : Option Addr) (n cap : Nat) (l : List DRule) (h : Cells w 6 a n (l.map DRule.cells)) (hn : 0 < n) (hm : n ≤ 1000) (p : DRule → Bool) (hp : PredBelow Tryz.prog g lb (fun x : DRule => .agg (DRule.cells x).toArray) p w) :
    Calls Tryz.prog 66 #[.slice a n cap, .func (.func g) #[] lb] w fun e w' => e = .returned (.int .i64 (Lib.idxBy (fun _ y => p y) l default)) ∧ Below w.heap.size w w' := by
  have hl := h.len1
  obtain ⟨b, off, rfl, hb, hc⟩ := h.at1 default hn
  have := Tryz.slices_idxZ DRule.cells (fun _ => rfl) p g lb eg b off n cap l w hp (by omega) (by omega) hb (cells_bang hl (fun _ => rfl) hc)
  rw [List.take_of_length_le (by omega)] at this
  exact this
theorem idxY_nil (a : Option Addr) (c : Nat) (fv : Value) (w : World) : Calls Tryz.prog 129 #[.slice a 0 c, fv] w fun e w' => e = .returned (.int .i64 (-1)) ∧ w = w' := by
  go_enter Tryz.func129, Tryz.ntmps129
  go_wp2_with fail
  go_loopw [8] (fun i wr => i = .int .i64 0 ∧ wr = w) (fun i _ => 0)
  case atStart => exact ⟨rfl, rfl⟩
  case round =>
    obtain ⟨rfl, rfl⟩ := hrel
    go_wp2_with fail
    go_ret
    exact ⟨rfl, rfl⟩
theorem hasY_any (g : Nat) (lb : Array Value) (eg : ∀ args w, (callFunc g args).run Tryz.prog w = .ok (.enter g args) w) (w : World) (a : Option Addr) (n cap : Nat) (l : List Hrs) (h : Cells w 4 a n (l.map Hrs.cells)) (hm : n ≤ 1000) (p : Hrs → Bool) (hp : PredBelow Tryz.prog g lb (fun x : Hrs => .agg (Hrs.cells x).toArray) p w) :
    Calls Tryz.prog 110 #[.slice a n cap, .func (.func g) #[] lb] w fun e w' => e = .returned (.bool (l.any p)) ∧ Below w.heap.size w w' := by
  have HA : Hid (l.any p = decide (0 ≤ Lib.idxBy (fun _ y => p y) l default)) := (Lib.idxBy_nonneg_iff (fun _ y => p y) l default).symm
  have HI : Hid (Calls Tryz.prog 129 #[.slice a n cap, .func (.func g) #[] lb] w fun e w' => e = .returned (.int .i64 (Lib.idxBy (fun _ y => p y) l default)) ∧ Below w.heap.size w w') := by
    by_cases h0 : n = 0
    · subst h0
      obtain rfl : l = [] := List.length_eq_zero_iff.1 h.len1.symm
      exact (idxY_nil a cap _ w).mono (by rintro e w' ⟨rfl, rfl⟩; exact ⟨rfl, Below.refl _ _⟩)
    · exact idxY_any g lb eg w a n cap l h (by omega) hm p hp
  clear h hp
  generalize Lib.idxBy (fun _ y => p y) l default = D at HA HI
  generalize l.any p = B at HA ⊢
  by_cases hD : 0 ≤ D
  · obtain rfl : B = true := by rw [HA.out]; simpa using hD
    clear HA
    go_enter Tryz.func110, Tryz.ntmps110
    go_wp2_with fail
    refine HI.out.mono ?_
    rintro e w' ⟨rfl, hb'⟩
    have HB := Lib.hid hb'
    clear hb'
    go_wp2_with fail
    go_ret
    exact ⟨rfl, HB.out⟩
  · obtain rfl : B = false := by rw [HA.out]; simpa using hD
    clear HA
    go_enter Tryz.func110, Tryz.ntmps110
    go_wp2_with fail
    refine HI.out.mono ?_
    rintro e w' ⟨rfl, hb'⟩
    have HB := Lib.hid hb'
    clear hb'
    go_wp2_with fail
    go_ret
    exact ⟨by show Ending.returned (Value.bool (decide (0 ≤ D))) = _; simp [hD], HB.out⟩
theorem idxZ_nil (a : Option Addr) (c : Nat) (fv : Value) (w : World) : Calls Tryz.prog 66 #[.slice a 0 c, fv] w fun e w' => e = .returned (.int .i64 (-1)) ∧ w = w' := by
  go_enter Tryz.func66, Tryz.ntmps66
  go_wp2_with fail
  go_loopw [8] (fun i wr => i = .int .i64 0 ∧ wr = w) (fun i _ => 0)
  case atStart => exact ⟨rfl, rfl⟩
  case round =>
    obtain ⟨rfl, rfl⟩ := hrel
    go_wp2_with fail
    go_ret
    exact ⟨rfl, rfl⟩
theorem hasZ_any (g : Nat) (lb : Array Value) (eg : ∀ args w, (callFunc g args).run Tryz.prog w = .ok (.enter g args) w) (w : World) (a : Option Addr) (n cap : Nat) (l : List DRule) (h : Cells w 6 a n (l.map DRule.cells)) (hm : n ≤ 1000) (p : DRule → Bool) (hp : PredBelow Tryz.prog g lb (fun x : DRule => .agg (DRule.cells x).toArray) p w) :
    Calls Tryz.prog 22 #[.slice a n cap, .func (.func g) #[] lb] w fun e w' => e = .returned (.bool (l.any p)) ∧ Below w.heap.size w w' := by
  have HA : Hid (l.any p = decide (0 ≤ Lib.idxBy (fun _ y => p y) l default)) := (Lib.idxBy_nonneg_iff (fun _ y => p y) l default).symm
  have HI : Hid (Calls Tryz.prog 66 #[.slice a n cap, .func (.func g) #[] lb] w fun e w' => e = .returned (.int .i64 (Lib.idxBy (fun _ y => p y) l default)) ∧ Below w.heap.size w w') := by
    by_cases h0 : n = 0
    · subst h0
      obtain rfl : l = [] := List.length_eq_zero_iff.1 h.len1.symm
      exact (idxZ_nil a cap _ w).mono (by rintro e w' ⟨rfl, rfl⟩; exact ⟨rfl, Below.refl _ _⟩)
    · exact idxZ_any g lb eg w a n cap l h (by omega) hm p hp
  clear h hp
  generalize Lib.idxBy (fun _ y => p y) l default = D at HA HI
  generalize l.any p = B at HA ⊢
  by_cases hD : 0 ≤ D
  · obtain rfl : B = true := by rw [HA.out]; simpa using hD
    clear HA
    go_enter Tryz.func22, Tryz.ntmps22
    go_wp2_with fail
    refine HI.out.mono ?_
    rintro e w' ⟨rfl, hb'⟩
    have HB := Lib.hid hb'
    clear hb'
    go_wp2_with fail
    go_ret
    exact ⟨rfl, HB.out⟩
  · obtain rfl : B = false := by rw [HA.out]; simpa using hD
    clear HA
    go_enter Tryz.func22, Tryz.ntmps22
    go_wp2_with fail
    refine HI.out.mono ?_
    rintro e w' ⟨rfl, hb'⟩
    have HB := Lib.hid hb'
    clear hb'
    go_wp2_with fail
    go_ret
    exact ⟨by show Ending.returned (Value.bool (decide (0 ≤ D))) = _; simp [hD], HB.out⟩
end Go.Proofs.YtkdadbpajhdelaaGreatDoor

set_option linter.unusedVariables false
set_option linter.unusedSimpArgs false
namespace Go.Proofs.YtkdadbpajhdelaaGreatDoor
open Go.RowKit

theorem floor_any (a b : Int) (w : World) (h : 1 ≤ b) (hb : b ≤ 1000000000) (a0 : -1000000000000000 ≤ a) (a1 : a ≤ 1000000000000000) :
    Calls Tryz.prog 168 #[.int .i64 a, .int .i64 b] w fun e w' => e = .returned (.int .i64 (a / b)) ∧ w = w' := by
  obtain ⟨h1, h2⟩ := floor_down a b (by omega)
  have hq : -1000000000000001 ≤ a.tdiv b ∧ a.tdiv b ≤ 1000000000000001 := by
    have h3 : a.tdiv b ≤ a.tdiv b := Int.le_refl _
    have h4 := Int.natAbs_tdiv_le_natAbs a b
    omega
  obtain ⟨q0, q1⟩ := hq
  by_cases hx : a.tmod b < 0
  · have hd : Hid (a / b = a.tdiv b - 1) := (h1 hx).symm
    clear h1 h2
    go_enter Tryz.func168, Tryz.ntmps168
    go_wp2
    go_ret
    exact ⟨ret_int hd.out.symm, rfl⟩
  · have hd : Hid (a / b = a.tdiv b) := (h2 hx).symm
    clear h1 h2
    go_enter Tryz.func168, Tryz.ntmps168
    go_wp2
    go_ret
    exact ⟨ret_int hd.out.symm, rfl⟩

theorem and_1 (x : Int) (h0 : -9223372036854775808 ≤ x) (h1 : x ≤ 9223372036854775807) : bits .and .i64 x 1 = x % 2 := by
  show IntKind.i64.wrap (((BitVec.ofInt 64 x &&& BitVec.ofInt 64 1).toNat : Nat) : Int) = _
  rw [BitVec.toNat_and, BitVec.toNat_ofInt, BitVec.toNat_ofInt]
  have e1 : ((1 : Int) % ((2 ^ 64 : Nat) : Int)).toNat = 2 ^ 1 - 1 := by decide
  rw [e1, Nat.and_two_pow_sub_one_eq_mod, IntKind.wrap_i64]
  have e2 : (((x % ((2 ^ 64 : Nat) : Int)).toNat % 2 ^ 1 : Nat) : Int) = x % 2 := by
    have h2 : ((2 ^ 64 : Nat) : Int) = 18446744073709551616 := by decide
    rw [h2]
    omega
  rw [e2]
  omega
theorem bit_of (days wd : Int) (h0 : 0 ≤ days) (h1 : days ≤ 127) : bits .and .i64 (days / 2 ^ wd.toNat) 1 = if bitB days wd then 1 else 0 := by
  have hp : (0 : Int) ≤ 2 ^ wd.toNat := Int.le_of_lt (Int.pow_pos (by decide))
  have a0 := Int.ediv_nonneg h0 hp
  have a1 : days / 2 ^ wd.toNat ≤ days := Int.ediv_le_self _ h0
  rw [and_1 _ (by omega) (by omega)]
  unfold bitB
  by_cases h : days / 2 ^ wd.toNat % 2 = 1
  · rw [decide_eq_true h]; simpa using h
  · rw [decide_eq_false h]; simp; omega

def hoursVal (key : List UInt8) (zone : Int) (ra : Option Addr) (rn rc : Nat) (ha : Option Addr) (hn hc : Nat) : Value := .agg #[.string ⟨key.toArray⟩, .int .i64 zone, .slice ra rn rc, .slice ha hn hc]

set_option maxRecDepth 100000 in
set_option maxHeartbeats 4000000 in
theorem isOpen_any (w : World) (key : List UInt8) (zone : Int) (ra ha : Option Addr) (rn rc hn hc : Nat) (rows hols : List Tri) (at_ : Int) (hr : TriRow w ra rn rows) (hh : TriRow w ha hn hols) (hok : HoursOk zone rows hols) (a0 : 0 ≤ at_) (a1 : at_ ≤ 345686400000) :
    Calls Tryz.prog 131 #[hoursVal key zone ra rn rc ha hn hc, .int .i64 at_] w fun e w' => e = .returned (.bool (openI zone rows hols at_)) ∧ Below w.heap.size w w' := by
  obtain ⟨d0, d1, m0, m1⟩ := day_range hok.z0 hok.z1 a0 a1
  have HR := Lib.hid hr
  have HH := Lib.hid hh
  have HOK := Lib.hid hok
  have z0 := hok.z0
  have z1 := hok.z1
  have hn200 : hn ≤ 200 := by have := hok.few2; have := hh.len; omega
  have rn50 : rn ≤ 50 := by have := hok.few1; have := hr.len; omega
  have HD : Hid ((at_ + zone * 60000) / 86400000 = dayI zone at_) := rfl
  have HM : Hid ((at_ + zone * 60000 - dayI zone at_ * 86400000) / 60000 = minI zone at_) := rfl
  have HOP : Hid (openI zone rows hols at_ = match hols.find? (fun d => decide (d.a = dayI zone at_)) with | some d => fitsB (minI zone at_) d | none => rows.any (rowB (dayI zone at_ % 7) (minI zone at_))) := rfl
  have hmr : at_ + zone * 60000 - dayI zone at_ * 86400000 ≥ 0 := by unfold dayI localI; omega
  generalize openI zone rows hols at_ = ans at HOP
  generalize dayI zone at_ = day at *
  generalize minI zone at_ = mn at *
  clear hr hh hok
  unfold hoursVal
  go_enter Tryz.func131, Tryz.ntmps131
  go_wp2_with (go_at_call 168; refine (floor_any _ _ _ (by omega) (by omega) (by omega) (by omega)).mono ?_; rw [HD.out]; rintro e w' ⟨rfl, rfl⟩)
  rw [HM.out]
  clear hmr
  go_loopw [28] (fun it wr => ∃ k : Nat, k ≤ hn ∧ it = .int .i64 k ∧ Hid (∀ i, i < k → ¬ (hols.getD i noTri).a = day) ∧ Hid (Below (w.alloc (.cells #[.string ⟨key.toArray⟩, .int .i64 zone, .slice ra rn rc, .slice ha hn hc] 125)).heap.size (w.alloc (.cells #[.string ⟨key.toArray⟩, .int .i64 zone, .slice ra rn rc, .slice ha hn hc] 125)) wr)) (fun it _ => hn - (intOf it).toNat)
  case atStart => exact ⟨0, Nat.zero_le _, rfl, (fun i hi => by omega), Below.refl _ _⟩
  case round =>
    obtain ⟨k, hk, rfl, HNO, HB⟩ := hrel
    have HBW : Hid (Below w.heap.size w wr) := ext_trans (ext_alloc (Below.refl _ _)) HB.out
    have hz := HB.out.size
    by_cases hlt : k < hn
    · rcases HH.out.row with h0 | ⟨b, off, rfl, hb, hcl⟩
      · omega
      obtain ⟨c0, c1, c2⟩ := tri_cells (w := wr) (fun j hj => (HBW.out.cell (p := ⟨b, off + k * 3 + j, none⟩) hb).trans (hcl k hlt j hj))
      have hkl : k < hols.length := by rw [← HH.out.len]; exact hlt
      have HFI : Hid ((hols.getD k noTri).a = day → ans = fitsB mn (hols.getD k noTri)) := fun e => by
        rw [HOP.out, find_at hols k hkl (fun i hi => decide_eq_false (HNO.out i hi)) (decide_eq_true e)]
      have HNX : Hid (¬ (hols.getD k noTri).a = day → ∀ i, i < k + 1 → ¬ (hols.getD i noTri).a = day) := fun e i hi => by
        by_cases h : i = k
        · subst h; exact e
        · exact HNO.out i (by omega)
      clear hcl
      generalize hols.getD k noTri = d at c0 c1 c2 HFI HNX
      by_cases he : d.a = day
      · have hfin := HFI.out he
        have HF : Hid (ans = (decide (d.b ≤ mn) && decide (mn < d.c))) := hfin
        have he2 : (d.a == day) = true := by simpa using he
        clear hfin he
        by_cases q1 : d.b ≤ mn
        · by_cases q2 : mn < d.c
          · go_wp2_with fail
            go_ret
            rw [HF.out, decide_eq_true q1, decide_eq_true q2]
            exact ⟨rfl, (by (try show Below _ _ _); repeat (with_reducible first | exact Below.refl _ _ | assumption | exact Hid.out (by assumption) | refine ext_alloc ?_ | refine ext_drewN ?_ | refine ext_drew ?_ | refine ext_setCell ?_ (Nat.le_refl _) | refine ext_setCell ?_ (Nat.le_succ _) | refine ext_trans ?_ (by assumption) | (refine ext_setCell ?_ (by simp)) | (refine ext_setCell ?_ (by simp at *; omega))))⟩
          · go_wp2_with fail
            go_ret
            rw [HF.out, decide_eq_true q1, show decide (mn < d.c) = false from decide_eq_false (by omega)]
            exact ⟨rfl, (by (try show Below _ _ _); repeat (with_reducible first | exact Below.refl _ _ | assumption | exact Hid.out (by assumption) | refine ext_alloc ?_ | refine ext_drewN ?_ | refine ext_drew ?_ | refine ext_setCell ?_ (Nat.le_refl _) | refine ext_setCell ?_ (Nat.le_succ _) | refine ext_trans ?_ (by assumption) | (refine ext_setCell ?_ (by simp)) | (refine ext_setCell ?_ (by simp at *; omega))))⟩
        · have q3 : decide (d.b ≤ mn) = false := decide_eq_false q1
          go_wp2_with fail
          go_ret
          rw [HF.out, q3]
          exact ⟨rfl, (by (try show Below _ _ _); repeat (with_reducible first | exact Below.refl _ _ | assumption | exact Hid.out (by assumption) | refine ext_alloc ?_ | refine ext_drewN ?_ | refine ext_drew ?_ | refine ext_setCell ?_ (Nat.le_refl _) | refine ext_setCell ?_ (Nat.le_succ _) | refine ext_trans ?_ (by assumption) | (refine ext_setCell ?_ (by simp)) | (refine ext_setCell ?_ (by simp at *; omega))))⟩
      · have he2 : (d.a == day) = false := by simpa using he
        have HN2 := Lib.hid (HNX.out he)
        clear he
        go_wp2_with fail
        go_roundw
        case rel => exact ⟨k + 1, hlt, by go_num, HN2, ext_alloc HB.out⟩
        case measure => simp [intOf]; omega
    · obtain rfl : k = hn := by omega
      have HAN : Hid (ans = rows.any (rowB (day % 7) mn)) := by
        show _ = _
        rw [HOP.out, find_no hols (fun i hi => decide_eq_false (HNO.out i (by rw [HH.out.len]; exact hi)))]
      have r2 := (HB.out.cell (p := ⟨w.heap.size, 2, none⟩) (by simp)).trans (show _ = some (.slice ra rn rc) by go_simp)
      have hwd : day - 7 * (day / 7) = day % 7 := by omega
      have wd0 : 0 ≤ day % 7 := by omega
      have wd1 : day % 7 ≤ 6 := by omega
      go_wp2_with (go_at_call 168; refine (floor_any _ _ _ (by omega) (by omega) (by omega) (by omega)).mono ?_; rintro e w' ⟨rfl, rfl⟩)
      generalize day % 7 = wd at *
      clear hwd
      go_loopw [55] (fun it wq => ∃ q : Nat, q ≤ rn ∧ it = .int .i64 q ∧ Hid (∀ i, i < q → rowB wd mn (rows.getD i noTri) = false) ∧ Hid (Below w.heap.size w wq)) (fun it _ => rn - (intOf it).toNat)
      case atStart => exact ⟨0, Nat.zero_le _, rfl, (fun i hi => by omega), HBW⟩
      case round =>
        obtain ⟨q, hq, rfl, HNR, HBQ⟩ := hrel
        by_cases hlq : q < rn
        · rcases HR.out.row with h0 | ⟨b, off, rfl, hb, hcl⟩
          · omega
          obtain ⟨c0, c1, c2⟩ := tri_cells (w := wr) (fun j hj => (HBQ.out.cell (p := ⟨b, off + q * 3 + j, none⟩) hb).trans (hcl q hlq j hj))
          have hql : q < rows.length := by rw [← HR.out.len]; exact hlq
          obtain ⟨x0, x1, x2, x3, x4⟩ := HOK.out.row q hql
          have HYES : Hid (rowB wd mn (rows.getD q noTri) = true → ans = true) := fun e => by rw [HAN.out]; exact any_yes rows q hql e
          have HNX : Hid (rowB wd mn (rows.getD q noTri) = false → ∀ i, i < q + 1 → rowB wd mn (rows.getD i noTri) = false) := fun e i hi => by
            by_cases h : i = q
            · subst h; exact e
            · exact HNR.out i (by omega)
          clear hcl
          generalize rows.getD q noTri = d at c0 c1 c2 HYES HNX x0 x1 x2 x3 x4
          have hbt := bit_of d.a wd (by omega) x1
          by_cases hb1 : bitB d.a wd = true
          · rw [hb1, if_pos rfl] at hbt
            have HRW : Hid (rowB wd mn d = (decide (d.b ≤ mn) && decide (mn < d.c))) := by
              show _ = _
              unfold rowB fitsB
              rw [hb1]; rfl
            clear hb1
            by_cases q1 : d.b ≤ mn
            · by_cases q2 : mn < d.c
              · have hy := HYES.out (by rw [HRW.out, decide_eq_true q1, decide_eq_true q2]; rfl)
                have HY := Lib.hid hy
                clear hy
                go_wp2_with fail
                go_ret
                rw [HY.out]
                exact ⟨rfl, (by (try show Below _ _ _); repeat (with_reducible first | exact Below.refl _ _ | assumption | exact Hid.out (by assumption) | refine ext_alloc ?_ | refine ext_drewN ?_ | refine ext_drew ?_ | refine ext_setCell ?_ (Nat.le_refl _) | refine ext_setCell ?_ (Nat.le_succ _) | refine ext_trans ?_ (by assumption) | (refine ext_setCell ?_ (by simp)) | (refine ext_setCell ?_ (by simp at *; omega))))⟩
              · have HN2 := Lib.hid (HNX.out (by rw [HRW.out, decide_eq_false q2]; simp))
                go_wp2_with fail
                go_roundw
                case rel => exact ⟨q + 1, hlq, by go_num, HN2, ext_alloc HBQ.out⟩
                case measure => simp [intOf]; omega
            · have HN2 := Lib.hid (HNX.out (by rw [HRW.out, decide_eq_false q1]; rfl))
              have q3 : decide (d.b ≤ mn) = false := decide_eq_false q1
              go_wp2_with fail
              go_roundw
              case rel => exact ⟨q + 1, hlq, by go_num, HN2, ext_alloc HBQ.out⟩
              case measure => simp [intOf]; omega
          · have hb2 : bitB d.a wd = false := by simpa using hb1
            rw [hb2] at hbt
            simp only [Bool.false_eq_true, if_false] at hbt
            have HN2 := Lib.hid (HNX.out (by unfold rowB; rw [hb2]; rfl))
            clear hb1 hb2
            go_wp2_with fail
            go_roundw
            case rel => exact ⟨q + 1, hlq, by go_num, HN2, ext_alloc HBQ.out⟩
            case measure => simp [intOf]; omega
        · have hfin : Hid (ans = false) := by
            show _ = _
            rw [HAN.out]
            exact any_no rows (fun i hi => HNR.out i (by have := HR.out.len; omega))
          go_wp2_with fail
          go_ret
          rw [hfin.out]
          exact ⟨rfl, HBQ.out⟩
end Go.Proofs.YtkdadbpajhdelaaGreatDoor

set_option linter.unusedVariables false
set_option linter.unusedSimpArgs false
namespace Go.Proofs.YtkdadbpajhdelaaGreatDoor
open Go.RowKit

theorem within_d (n lo hi : Int) (w : World) (h1 : lo ≤ n) (h2 : n ≤ hi) :
    Calls Tryz.prog 74 #[.int .i64 n, .int .i64 lo, .int .i64 hi] w fun e w' => e = .returned (.bool true) ∧ w = w' := by
  go_enter Tryz.func74, Tryz.ntmps74
  go_wp2
  go_ret
  exact ⟨rfl, rfl⟩
theorem isTime_yes (a b : Int) (w : World) (h1 : 0 ≤ a) (h2 : a < b) (h3 : b ≤ 1440) :
    Calls Tryz.prog 177 #[.int .i64 a, .int .i64 b] w fun e w' => e = .returned (.bool true) ∧ w = w' := by
  go_enter Tryz.func177, Tryz.ntmps177
  go_wp2
  go_ret
  exact ⟨rfl, rfl⟩

set_option maxRecDepth 100000 in
set_option maxHeartbeats 4000000 in
theorem checkTimes_ok (w : World) (key : List UInt8) (zone : Int) (ra ha : Option Addr) (rn rc hn hc : Nat) (rows hols : List Tri) (hr : TriRow w ra rn rows) (hh : TriRow w ha hn hols) (hok : HoursOk zone rows hols) :
    Calls Tryz.prog 144 #[hoursVal key zone ra rn rc ha hn hc] w fun e w' => e = .returned (.int .i64 0) ∧ Below w.heap.size w w' := by
  have HR := Lib.hid hr
  have HH := Lib.hid hh
  have HOK := Lib.hid hok
  have hn200 : hn ≤ 200 := by have := hok.few2; have := hh.len; omega
  have rn50 : rn ≤ 50 := by have := hok.few1; have := hr.len; omega
  clear hr hh hok
  unfold hoursVal
  go_enter Tryz.func144, Tryz.ntmps144
  go_wp2_with fail
  go_loopw [14] (fun it wr => ∃ k : Nat, k ≤ rn ∧ it = .int .i64 k ∧ Hid (Below (w.alloc (.cells #[.string ⟨key.toArray⟩, .int .i64 zone, .slice ra rn rc, .slice ha hn hc] 125)).heap.size (w.alloc (.cells #[.string ⟨key.toArray⟩, .int .i64 zone, .slice ra rn rc, .slice ha hn hc] 125)) wr)) (fun it _ => rn - (intOf it).toNat)
  case atStart => exact ⟨0, Nat.zero_le _, rfl, Below.refl _ _⟩
  case round =>
    obtain ⟨k, hk, rfl, HB⟩ := hrel
    have HBW : Hid (Below w.heap.size w wr) := ext_trans (ext_alloc (Below.refl _ _)) HB.out
    have hz := HB.out.size
    by_cases hlt : k < rn
    · rcases HR.out.row with h0 | ⟨b, off, rfl, hb, hcl⟩
      · omega
      obtain ⟨c0, c1, c2⟩ := tri_cells (w := wr) (fun j hj => (HBW.out.cell (p := ⟨b, off + k * 3 + j, none⟩) hb).trans (hcl k hlt j hj))
      obtain ⟨x0, x1, x2, x3, x4⟩ := HOK.out.row k (by rw [← HR.out.len]; exact hlt)
      clear hcl
      generalize rows.getD k noTri = d at c0 c1 c2 x0 x1 x2 x3 x4
      go_wp2_with (first | (go_at_call 74; refine (within_d _ _ _ _ (by omega) (by omega)).mono ?_; rintro e w' ⟨rfl, rfl⟩) | (go_at_call 177; refine (isTime_yes _ _ _ x2 x3 x4).mono ?_; rintro e w' ⟨rfl, rfl⟩))
      go_roundw
      case rel => exact ⟨k + 1, hlt, by go_num, ext_alloc HB.out⟩
      case measure => simp [intOf]; omega
    · obtain rfl : k = rn := by omega
      have r3 := (HB.out.cell (p := ⟨w.heap.size, 3, none⟩) (by simp)).trans (show _ = some (.slice ha hn hc) by go_simp)
      have zz : w.heap.size < wr.heap.size := by simp at hz; omega
      have HK1 := Lib.hid HB.out
      go_wp2_with fail
      go_loopw [38] (fun it wq => ∃ q : Nat, q ≤ hn ∧ it = .int .i64 q ∧ Hid (Below (w.alloc (.cells #[.string ⟨key.toArray⟩, .int .i64 zone, .slice ra k rc, .slice ha hn hc] 125)).heap.size (w.alloc (.cells #[.string ⟨key.toArray⟩, .int .i64 zone, .slice ra k rc, .slice ha hn hc] 125)) wq)) (fun it _ => hn - (intOf it).toNat)
      case atStart => exact ⟨0, Nat.zero_le _, rfl, HB⟩
      case round =>
        obtain ⟨q, hq, rfl, HBQ⟩ := hrel
        have HBV : Hid (Below w.heap.size w wr) := ext_trans (ext_alloc (Below.refl _ _)) HBQ.out
        have hzq := HBQ.out.size
        by_cases hlq : q < hn
        · rcases HH.out.row with h0 | ⟨b, off, rfl, hb, hcl⟩
          · omega
          obtain ⟨c0, c1, c2⟩ := tri_cells (w := wr) (fun j hj => (HBV.out.cell (p := ⟨b, off + q * 3 + j, none⟩) hb).trans (hcl q hlq j hj))
          have hql : q < hols.length := by rw [← HH.out.len]; exact hlq
          obtain ⟨x0, x1, x2⟩ := HOK.out.hol q hql
          have HX : Hid (0 < q → wr.cell? ⟨b, off + (q - 1) * 3, none⟩ = some (.int .i64 (hols.getD (q - 1) noTri).a)) := fun h0 => (HBV.out.cell (p := ⟨b, off + (q - 1) * 3 + 0, none⟩) hb).trans (hcl (q - 1) (by omega) 0 (by omega))
          have HO : Hid (0 < q → (hols.getD (q - 1) noTri).a < (hols.getD q noTri).a) := fun h0 => HOK.out.ord q h0 hql
          have s3 := (HBQ.out.cell (p := ⟨w.heap.size, 3, none⟩) (by simp)).trans (show _ = some (.slice (some ⟨b, off, none⟩) hn hc) by go_simp)
          have zq : w.heap.size < wr.heap.size := by simp at hzq; omega
          have zb : b < wr.heap.size := by omega
          have HBN : Hid (∀ (o : Obj) m, Below (w.alloc (.cells #[.string ⟨key.toArray⟩, .int .i64 zone, .slice ra k rc, .slice (some ⟨b, off, none⟩) hn hc] 125)).heap.size (w.alloc (.cells #[.string ⟨key.toArray⟩, .int .i64 zone, .slice ra k rc, .slice (some ⟨b, off, none⟩) hn hc] 125)) ((wr.alloc o).drewN m)) := fun o m => ext_drewN (ext_alloc HBQ.out)
          clear hcl
          generalize hols.getD q noTri = d at c0 c1 c2 x0 x1 x2 HO
          generalize hols.getD (q - 1) noTri = y at HX HO
          have hcase : ((d.b != 0) = false ∧ (d.c != 0) = false) ∨ ((d.b != 0) = true ∧ (0 ≤ d.b ∧ d.b < d.c ∧ d.c ≤ 1440)) ∨ ((d.b != 0) = false ∧ (d.c != 0) = true ∧ (0 ≤ d.b ∧ d.b < d.c ∧ d.c ≤ 1440)) := by
            rcases x2 with ⟨u0, u1⟩ | u
            · exact Or.inl ⟨by simp [u0], by simp [u1]⟩
            · by_cases hb0 : d.b = 0
              · exact Or.inr (Or.inr ⟨by simp [hb0], by simp; omega, u⟩)
              · exact Or.inr (Or.inl ⟨by simp [hb0], u⟩)
          clear x2
          by_cases hk0 : q = 0
          · have hk1 : decide (0 < q) = false := decide_eq_false (by omega)
            have HK0 := Lib.hid hk0
            clear hk0
            rcases hcase with ⟨t1, t2⟩ | ⟨t1, ht⟩ | ⟨t1, t2, ht⟩
            · have HT := Lib.hid t1
              go_wp2_with (first | (go_at_call 74; refine (within_d _ _ _ _ (by omega) (by omega)).mono ?_; rintro e w' ⟨rfl, rfl⟩) | (go_at_call 177; refine (isTime_yes _ _ _ (by omega) (by omega) (by omega)).mono ?_; rintro e w' ⟨rfl, rfl⟩))
              go_quiet (fail)
              go_wp2_with fail
              go_roundw
              case rel => exact ⟨q + 1, by omega, by go_num, HBN.out _ _⟩
              case measure => simp [intOf]; omega
            · have HT := Lib.hid ht
              clear ht
              go_wp2_with (first | (go_at_call 74; refine (within_d _ _ _ _ (by omega) (by omega)).mono ?_; rintro e w' ⟨rfl, rfl⟩) | (go_at_call 177; refine (isTime_yes _ _ _ HT.out.1 HT.out.2.1 HT.out.2.2).mono ?_; rintro e w' ⟨rfl, rfl⟩))
              go_quiet (fail)
              go_wp2_with fail
              go_roundw
              case rel => exact ⟨q + 1, by omega, by go_num, HBN.out _ _⟩
              case measure => simp [intOf]; omega
            · have HT := Lib.hid ht
              clear ht
              go_wp2_with (first | (go_at_call 74; refine (within_d _ _ _ _ (by omega) (by omega)).mono ?_; rintro e w' ⟨rfl, rfl⟩) | (go_at_call 177; refine (isTime_yes _ _ _ HT.out.1 HT.out.2.1 HT.out.2.2).mono ?_; rintro e w' ⟨rfl, rfl⟩))
              go_quiet (fail)
              go_wp2_with fail
              go_roundw
              case rel => exact ⟨q + 1, by omega, by go_num, HBN.out _ _⟩
              case measure => simp [intOf]; omega
          · have hk1 : 0 < q := by omega
            clear hk0
            rcases hcase with ⟨t1, t2⟩ | ⟨t1, ht⟩ | ⟨t1, t2, ht⟩
            · have HT := Lib.hid t1
              have p0 := HX.out hk1
              have kq : ((q : Int) - 1).toNat = q - 1 := by omega
              have kr : 0 ≤ (q : Int) - 1 := by omega
              have ks : (q : Int) - 1 < hn := by omega
              have hno : decide (d.a ≤ y.a) = false := decide_eq_false (by have := HO.out hk1; omega)
              go_wp2_with (first | (go_at_call 74; refine (within_d _ _ _ _ (by omega) (by omega)).mono ?_; rintro e w' ⟨rfl, rfl⟩) | (go_at_call 177; refine (isTime_yes _ _ _ (by omega) (by omega) (by omega)).mono ?_; rintro e w' ⟨rfl, rfl⟩))
              go_quiet (fail)
              go_wp2_with fail
              go_roundw
              case rel => exact ⟨q + 1, by omega, by go_num, HBN.out _ _⟩
              case measure => simp [intOf]; omega
            · have HT := Lib.hid ht
              clear ht
              have p0 := HX.out hk1
              have kq : ((q : Int) - 1).toNat = q - 1 := by omega
              have kr : 0 ≤ (q : Int) - 1 := by omega
              have ks : (q : Int) - 1 < hn := by omega
              have hno : decide (d.a ≤ y.a) = false := decide_eq_false (by have := HO.out hk1; omega)
              go_wp2_with (first | (go_at_call 74; refine (within_d _ _ _ _ (by omega) (by omega)).mono ?_; rintro e w' ⟨rfl, rfl⟩) | (go_at_call 177; refine (isTime_yes _ _ _ HT.out.1 HT.out.2.1 HT.out.2.2).mono ?_; rintro e w' ⟨rfl, rfl⟩))
              go_quiet (fail)
              go_wp2_with fail
              go_roundw
              case rel => exact ⟨q + 1, by omega, by go_num, HBN.out _ _⟩
              case measure => simp [intOf]; omega
            · have HT := Lib.hid ht
              clear ht
              have p0 := HX.out hk1
              have kq : ((q : Int) - 1).toNat = q - 1 := by omega
              have kr : 0 ≤ (q : Int) - 1 := by omega
              have ks : (q : Int) - 1 < hn := by omega
              have hno : decide (d.a ≤ y.a) = false := decide_eq_false (by have := HO.out hk1; omega)
              go_wp2_with (first | (go_at_call 74; refine (within_d _ _ _ _ (by omega) (by omega)).mono ?_; rintro e w' ⟨rfl, rfl⟩) | (go_at_call 177; refine (isTime_yes _ _ _ HT.out.1 HT.out.2.1 HT.out.2.2).mono ?_; rintro e w' ⟨rfl, rfl⟩))
              go_quiet (fail)
              go_wp2_with fail
              go_roundw
              case rel => exact ⟨q + 1, by omega, by go_num, HBN.out _ _⟩
              case measure => simp [intOf]; omega
        · go_wp2_with fail
          go_ret
          exact ⟨rfl, HBV.out⟩
end Go.Proofs.YtkdadbpajhdelaaGreatDoor

set_option linter.unusedVariables false
set_option linter.unusedSimpArgs false
namespace Go.Proofs.YtkdadbpajhdelaaGreatDoor
open Go.RowKit Go.Lib

def IntP (n : Int) (w : World) (e : Ending) (w' : World) : Prop := e = .returned (.int .i64 n) ∧ Below w.heap.size w w'
def BoolP (b : Bool) (w : World) (e : Ending) (w' : World) : Prop := e = .returned (.bool b) ∧ Below w.heap.size w w'
theorem ctx_idx {l : List DCtx} (h3 : l.length = 3) (hk : ∀ i, i < 3 → (l.getD i noDCtx).key = ctxKey i) (j : Nat) (hj : j < 3) : Lib.idxBy (fun _ y : DCtx => decide (y.key = ctxKey j)) l default = j := by
  match l, h3 with
  | [a, b, c], _ =>
    have k0 : a.key = ctxKey 0 := hk 0 (by decide)
    have k1 : b.key = ctxKey 1 := hk 1 (by decide)
    have k2 : c.key = ctxKey 2 := hk 2 (by decide)
    unfold Lib.idxBy
    match j, hj with
    | 0, _ => simp [Lib.idxByFrom, k0]
    | 1, _ => simp [Lib.idxByFrom, k0, k1, ctxKey]
    | 2, _ => simp [Lib.idxByFrom, k0, k1, k2, ctxKey]
theorem hrs_idx {l : List Hrs} (h2 : l.length = 2) (hk : ∀ i, i < 2 → (l.getD i noHrs).key = hourKeys.getD i []) (j : Nat) (hj : j < 2) : Lib.idxBy (fun _ y : Hrs => decide (y.key = hourKeys.getD j [])) l default = j := by
  match l, h2 with
  | [a, b], _ =>
    have k0 : a.key = [104, 97] := hk 0 (by decide)
    have k1 : b.key = [104, 98] := hk 1 (by decide)
    unfold Lib.idxBy
    match j, hj with
    | 0, _ => simp [Lib.idxByFrom, k0, hourKeys]
    | 1, _ => simp [Lib.idxByFrom, k0, k1, hourKeys]
set_option maxRecDepth 100000 in
theorem ctxKey_call (xk k : List UInt8) (ra ia : Option Addr) (rn rc inn ic : Nat) (A : Nat) (W : World) (hA : A < W.heap.size) (c0 : W.cell? ⟨A, 0, none⟩ = some (.string ⟨k.toArray⟩)) :
    Calls Tryz.prog 147 #[.agg #[.string ⟨xk.toArray⟩, .slice ra rn rc, .slice ia inn ic], .pointer (some ⟨A, 0, none⟩)] W (BoolP (decide (xk = k)) W) := by
  have hne : A ≠ W.heap.size := by omega
  go_enter Tryz.func147, Tryz.ntmps147
  go_wp2_with fail
  go_ret
  exact ⟨by by_cases h : xk = k <;> simp [h], (by (try show Below _ _ _); repeat (with_reducible first | exact Below.refl _ _ | assumption | exact Hid.out (by assumption) | refine ext_alloc ?_ | refine ext_drewN ?_ | refine ext_drew ?_ | refine ext_setCell ?_ (Nat.le_refl _) | refine ext_setCell ?_ (Nat.le_succ _) | refine ext_trans ?_ (by assumption) | (refine ext_setCell ?_ (by simp)) | (refine ext_setCell ?_ (by simp at *; omega))))⟩
set_option maxRecDepth 100000 in
theorem hasKey_call (xk k : List UInt8) (z : Int) (ra ia : Option Addr) (rn rc inn ic : Nat) (A : Nat) (W : World) (hA : A < W.heap.size) (c0 : W.cell? ⟨A, 0, none⟩ = some (.string ⟨k.toArray⟩)) :
    Calls Tryz.prog 111 #[.agg #[.string ⟨xk.toArray⟩, .int .i64 z, .slice ra rn rc, .slice ia inn ic], .pointer (some ⟨A, 0, none⟩)] W (BoolP (decide (xk = k)) W) := by
  have hne : A ≠ W.heap.size := by omega
  go_enter Tryz.func111, Tryz.ntmps111
  go_wp2_with fail
  go_ret
  exact ⟨by by_cases h : xk = k <;> simp [h], (by (try show Below _ _ _); repeat (with_reducible first | exact Below.refl _ _ | assumption | exact Hid.out (by assumption) | refine ext_alloc ?_ | refine ext_drewN ?_ | refine ext_drew ?_ | refine ext_setCell ?_ (Nat.le_refl _) | refine ext_setCell ?_ (Nat.le_succ _) | refine ext_trans ?_ (by assumption) | (refine ext_setCell ?_ (by simp)) | (refine ext_setCell ?_ (by simp at *; omega))))⟩
set_option maxRecDepth 100000 in
theorem cntKey_call (xk k : List UInt8) (z : Int) (ra ia : Option Addr) (rn rc inn ic : Nat) (A : Nat) (W : World) (hA : A < W.heap.size) (c0 : W.cell? ⟨A, 0, none⟩ = some (.string ⟨k.toArray⟩)) :
    Calls Tryz.prog 130 #[.agg #[.string ⟨xk.toArray⟩, .int .i64 z, .slice ra rn rc, .slice ia inn ic], .pointer (some ⟨A, 0, none⟩)] W (BoolP (decide (xk = k)) W) := by
  have hne : A ≠ W.heap.size := by omega
  go_enter Tryz.func130, Tryz.ntmps130
  go_wp2_with fail
  go_ret
  exact ⟨by by_cases h : xk = k <;> simp [h], (by (try show Below _ _ _); repeat (with_reducible first | exact Below.refl _ _ | assumption | exact Hid.out (by assumption) | refine ext_alloc ?_ | refine ext_drewN ?_ | refine ext_drew ?_ | refine ext_setCell ?_ (Nat.le_refl _) | refine ext_setCell ?_ (Nat.le_succ _) | refine ext_trans ?_ (by assumption) | (refine ext_setCell ?_ (by simp)) | (refine ext_setCell ?_ (by simp at *; omega))))⟩
theorem ctx_pred (k : List UInt8) (A : Nat) (w : World) (hA : A < w.heap.size) (c0 : w.cell? ⟨A, 0, none⟩ = some (.string ⟨k.toArray⟩)) : PredBelow Tryz.prog 147 #[.pointer (some ⟨A, 0, none⟩)] (fun x : DCtx => .agg (DCtx.cells x).toArray) (fun x => decide (x.key = k)) w := fun W x hb =>
  (ctxKey_call x.key k x.ra x.ia x.rn x.rc x.inn x.ic A W (Nat.lt_of_lt_of_le hA hb.size) ((hb.cell (p := ⟨A, 0, none⟩) hA).trans c0)).mono fun e w' h => ⟨h.1, ext_trans hb h.2⟩
theorem has_pred (k : List UInt8) (A : Nat) (w : World) (hA : A < w.heap.size) (c0 : w.cell? ⟨A, 0, none⟩ = some (.string ⟨k.toArray⟩)) : PredBelow Tryz.prog 111 #[.pointer (some ⟨A, 0, none⟩)] (fun x : Hrs => .agg (Hrs.cells x).toArray) (fun x => decide (x.key = k)) w := fun W x hb =>
  (hasKey_call x.key k x.zone x.ra x.ha x.rn x.rc x.hn x.hc A W (Nat.lt_of_lt_of_le hA hb.size) ((hb.cell (p := ⟨A, 0, none⟩) hA).trans c0)).mono fun e w' h => ⟨h.1, ext_trans hb h.2⟩
theorem cnt_pred (k : List UInt8) (A : Nat) (w : World) (hA : A < w.heap.size) (c0 : w.cell? ⟨A, 0, none⟩ = some (.string ⟨k.toArray⟩)) : PredBelow Tryz.prog 130 #[.pointer (some ⟨A, 0, none⟩)] (fun x : Hrs => .agg (Hrs.cells x).toArray) (fun x => decide (x.key = k)) w := fun W x hb =>
  (cntKey_call x.key k x.zone x.ra x.ha x.rn x.rc x.hn x.hc A W (Nat.lt_of_lt_of_le hA hb.size) ((hb.cell (p := ⟨A, 0, none⟩) hA).trans c0)).mono fun e w' h => ⟨h.1, ext_trans hb h.2⟩
set_option maxRecDepth 100000 in
set_option maxHeartbeats 2000000 in
theorem contextAt_any (w : World) (p : DPlan) (hp : DPlanFine w p) (j : Nat) (hj : j < 3) : Calls Tryz.prog 96 #[.agg p.cells.toArray, .string ⟨(ctxKey j).toArray⟩] w (IntP j w) := by
  have hI := ctx_idx hp.three hp.keys j hj
  have hlen := hp.len
  have hc := hp.cells
  obtain ⟨ca, cn, cc, ctxs, ha, hn, hcp, hrs⟩ := p
  simp only at hI hlen hc
  subst hlen
  have HIX : Hid (∀ W, Below w.heap.size w W → ∀ A, A < W.heap.size → W.cell? ⟨A, 0, none⟩ = some (.string ⟨(ctxKey j).toArray⟩) → Calls Tryz.prog 146 #[.slice ca 3 cc, .func (.func 147) #[] #[.pointer (some ⟨A, 0, none⟩)]] W (IntP j W)) := fun W hW A hA c0 => by
    have := idxX_any 147 #[.pointer (some ⟨A, 0, none⟩)] (fun _ _ => rfl) W ca 3 cc ctxs (hc.below hW) (by omega) (by omega) _ (ctx_pred _ A W hA c0)
    rw [hI] at this
    exact this
  clear hc hI hp
  generalize ctxKey j = k at HIX ⊢
  show Calls Tryz.prog 96 #[.agg #[.slice ca 3 cc, .slice ha hn hcp], .string ⟨k.toArray⟩] w _
  go_enter Tryz.func96, Tryz.ntmps96
  have HIY := Lib.hid (HIX.out ((w.alloc (.cells #[.slice ca 3 cc, .slice ha hn hcp] 29)).alloc (.cells #[.string ⟨k.toArray⟩] 9)) (ext_alloc (ext_alloc (Below.refl _ _))) (w.heap.size + 1) (by simp) (by go_simp))
  go_wp2_with fail
  refine HIY.out.mono ?_
  rintro e w1 ⟨rfl, hb⟩
  have HB : Hid (Below w.heap.size w w1) := ext_trans (ext_alloc (ext_alloc (Below.refl _ _))) hb
  go_wp2_with fail
  go_ret
  exact ⟨rfl, HB.out⟩
end Go.Proofs.YtkdadbpajhdelaaGreatDoor

set_option linter.unusedVariables false
set_option linter.unusedSimpArgs false
namespace Go.Proofs.YtkdadbpajhdelaaGreatDoor
open Go.RowKit Go.Lib

/-- Are the hours of that key open (no key: always)? -/
def openR (hrs : List Hrs) (at_ : Int) (key : List UInt8) : Bool := if key = [] then true else if key = [104, 97] then openI (hrs.getD 0 noHrs).zone (hrs.getD 0 noHrs).rows (hrs.getD 0 noHrs).hols at_ else openI (hrs.getD 1 noHrs).zone (hrs.getD 1 noHrs).rows (hrs.getD 1 noHrs).hols at_
theorem hours_any {l : List Hrs} (h2 : l.length = 2) (hk : ∀ i, i < 2 → (l.getD i noHrs).key = hourKeys.getD i []) (j : Nat) (hj : j < 2) : l.any (fun y => decide (y.key = hourKeys.getD j [])) = true := by
  rw [List.any_eq_true]
  refine ⟨l.getD j noHrs, ?_, by rw [hk j hj]; simp⟩
  rw [List.getD_eq_getElem?_getD, List.getElem?_eq_getElem (by omega)]
  exact List.getElem_mem _
theorem hkey_cases {k : List UInt8} (h : k ∈ ([[], [104, 97], [104, 98]] : List (List UInt8))) : k = [] ∨ ∃ j, j < 2 ∧ k = hourKeys.getD j [] ∧ k ≠ [] := by
  simp only [List.mem_cons, List.not_mem_nil, or_false] at h
  rcases h with rfl | rfl | rfl
  · exact Or.inl rfl
  · exact Or.inr ⟨0, by decide, rfl, by decide⟩
  · exact Or.inr ⟨1, by decide, rfl, by decide⟩
set_option maxRecDepth 100000 in
set_option maxHeartbeats 2000000 in
theorem hasHours_any (w : World) (p : DPlan) (hp : DPlanFine w p) (k : List UInt8) (hk : k ∈ ([[], [104, 97], [104, 98]] : List (List UInt8))) : Calls Tryz.prog 75 #[.agg p.cells.toArray, .string ⟨k.toArray⟩] w (BoolP true w) := by
  have hh := hp.hours
  clear hp
  obtain ⟨ca, cn, cc, ctxs, ha, hn, hcp, hrs⟩ := p
  simp only at hh
  have hlen := hh.len
  show Calls Tryz.prog 75 #[.agg #[.slice ca cn cc, .slice ha hn hcp], .string ⟨k.toArray⟩] w _
  rcases hkey_cases hk with rfl | ⟨j, hj, rfl, hne⟩
  · clear hk hh
    go_enter Tryz.func75, Tryz.ntmps75
    go_wp2_with fail
    go_ret
    exact ⟨rfl, (by (try show Below _ _ _); repeat (with_reducible first | exact Below.refl _ _ | assumption | exact Hid.out (by assumption) | refine ext_alloc ?_ | refine ext_drewN ?_ | refine ext_drew ?_ | refine ext_setCell ?_ (Nat.le_refl _) | refine ext_setCell ?_ (Nat.le_succ _) | refine ext_trans ?_ (by assumption) | (refine ext_setCell ?_ (by simp)) | (refine ext_setCell ?_ (by simp at *; omega))))⟩
  · have hA := hours_any hh.two hh.keys j hj
    have HHX : Hid (∀ W, Below w.heap.size w W → ∀ A, A < W.heap.size → W.cell? ⟨A, 0, none⟩ = some (.string ⟨(hourKeys.getD j []).toArray⟩) → Calls Tryz.prog 110 #[.slice ha hn hcp, .func (.func 111) #[] #[.pointer (some ⟨A, 0, none⟩)]] W (BoolP true W)) := fun W hW A hA2 c0 => by
      have := hasY_any 111 #[.pointer (some ⟨A, 0, none⟩)] (fun _ _ => rfl) W ha hn hcp hrs (hh.cells.below hW) (by omega) _ (has_pred _ A W hA2 c0)
      rw [hA] at this
      exact this
    clear hh hA hk
    generalize hourKeys.getD j [] = k at HHX hne ⊢
    cases k with
    | nil => exact absurd rfl hne
    | cons x k =>
      clear hne
      subst hlen
      go_enter Tryz.func75, Tryz.ntmps75
      have HHY := Lib.hid (HHX.out ((w.alloc (.cells #[.slice ca cn cc, .slice ha 2 hcp] 29)).alloc (.cells #[.string ⟨(x :: k).toArray⟩] 9)) (ext_alloc (ext_alloc (Below.refl _ _))) (w.heap.size + 1) (by simp) (by go_simp))
      go_wp2_with fail
      refine HHY.out.mono ?_
      rintro e w1 ⟨rfl, hb⟩
      have HB : Hid (Below w.heap.size w w1) := ext_trans (ext_alloc (ext_alloc (Below.refl _ _))) hb
      go_wp2_with fail
      go_ret
      exact ⟨rfl, HB.out⟩
theorem openR_at {hrs : List Hrs} {at_ : Int} {j : Nat} (hj : j < 2) : openR hrs at_ (hourKeys.getD j []) = openI (hrs.getD j noHrs).zone (hrs.getD j noHrs).rows (hrs.getD j noHrs).hols at_ := by
  match j, hj with
  | 0, _ => rfl
  | 1, _ => rfl
set_option maxRecDepth 100000 in
set_option maxHeartbeats 2000000 in
theorem counts_any (w : World) (p : DPlan) (hp : DPlanFine w p) (k : List UInt8) (hk : k ∈ ([[], [104, 97], [104, 98]] : List (List UInt8))) (at_ : Int) (a0 : 0 ≤ at_) (a1 : at_ ≤ 345686400000) : Calls Tryz.prog 81 #[.agg p.cells.toArray, .string ⟨k.toArray⟩, .int .i64 at_] w (BoolP (openR p.hrs at_ k) w) := by
  have hh := hp.hours
  clear hp
  obtain ⟨ca, cn, cc, ctxs, ha, hn, hcp, hrs⟩ := p
  simp only at hh ⊢
  have hlen := hh.len
  show Calls Tryz.prog 81 #[.agg #[.slice ca cn cc, .slice ha hn hcp], .string ⟨k.toArray⟩, .int .i64 at_] w _
  rcases hkey_cases hk with rfl | ⟨j, hj, rfl, hne⟩
  · clear hk hh
    go_enter Tryz.func81, Tryz.ntmps81
    go_wp2_with fail
    go_ret
    exact ⟨rfl, (by (try show Below _ _ _); repeat (with_reducible first | exact Below.refl _ _ | assumption | exact Hid.out (by assumption) | refine ext_alloc ?_ | refine ext_drewN ?_ | refine ext_drew ?_ | refine ext_setCell ?_ (Nat.le_refl _) | refine ext_setCell ?_ (Nat.le_succ _) | refine ext_trans ?_ (by assumption) | (refine ext_setCell ?_ (by simp)) | (refine ext_setCell ?_ (by simp at *; omega))))⟩
  · have hI := hrs_idx hh.two hh.keys j hj
    have HHX : Hid (∀ W, Below w.heap.size w W → ∀ A, A < W.heap.size → W.cell? ⟨A, 0, none⟩ = some (.string ⟨(hourKeys.getD j []).toArray⟩) → Calls Tryz.prog 129 #[.slice ha hn hcp, .func (.func 130) #[] #[.pointer (some ⟨A, 0, none⟩)]] W (IntP j W)) := fun W hW A hA2 c0 => by
      have := idxY_any 130 #[.pointer (some ⟨A, 0, none⟩)] (fun _ _ => rfl) W ha hn hcp hrs (hh.cells.below hW) (by omega) (by omega) _ (cnt_pred _ A W hA2 c0)
      rw [hI] at this
      exact this
    rw [openR_at hj]
    obtain ⟨b, off, rfl, hb, hc⟩ := hh.at
    obtain ⟨c0, c1, c2, c3⟩ := hc j hj
    have HIO : Hid (∀ W, Below w.heap.size w W → Calls Tryz.prog 131 #[.agg #[.string ⟨(hourKeys.getD j []).toArray⟩, .int .i64 (hrs.getD j noHrs).zone, .slice (hrs.getD j noHrs).ra (hrs.getD j noHrs).rn (hrs.getD j noHrs).rc, .slice (hrs.getD j noHrs).ha (hrs.getD j noHrs).hn (hrs.getD j noHrs).hc], .int .i64 at_] W (BoolP (openI (hrs.getD j noHrs).zone (hrs.getD j noHrs).rows (hrs.getD j noHrs).hols at_) W)) := fun W hW =>
      isOpen_any W _ _ _ _ _ _ _ _ _ _ at_ ((hh.rows j hj).below hW) ((hh.hols j hj).below hW) (hh.ok j hj) a0 a1
    clear hh hI hk hc
    generalize openI (hrs.getD j noHrs).zone (hrs.getD j noHrs).rows (hrs.getD j noHrs).hols at_ = ans at HIO ⊢
    generalize hourKeys.getD j [] = k at HHX HIO hne c0 ⊢
    generalize hrs.getD j noHrs = h at HIO c1 c2 c3
    obtain ⟨hk, hz, hra, hrn, hrc, hha, hhn, hhc, hr, hl⟩ := h
    simp only at HIO c1 c2 c3
    cases k with
    | nil => exact absurd rfl hne
    | cons x k =>
      clear hne
      subst hlen
      go_enter Tryz.func81, Tryz.ntmps81
      have hA0 : Below w.heap.size w ((w.alloc (.cells #[.slice ca cn cc, .slice (some ⟨b, off, none⟩) 2 hcp] 29)).alloc (.cells #[.string ⟨(x :: k).toArray⟩] 9)) := ext_alloc (ext_alloc (Below.refl _ _))
      have HHY := Lib.hid (HHX.out _ hA0 (w.heap.size + 1) (by simp) (by go_simp))
      have x0 : ((w.alloc (.cells #[.slice ca cn cc, .slice (some ⟨b, off, none⟩) 2 hcp] 29)).alloc (.cells #[.string ⟨(x :: k).toArray⟩] 9)).cell? ⟨w.heap.size, 1, none⟩ = some (.slice (some ⟨b, off, none⟩) 2 hcp) := by go_simp
      have hsz : w.heap.size < ((w.alloc (.cells #[.slice ca cn cc, .slice (some ⟨b, off, none⟩) 2 hcp] 29)).alloc (.cells #[.string ⟨(x :: k).toArray⟩] 9)).heap.size := by simp; omega
      have HX0 := Lib.hid x0
      have HA0 := Lib.hid hA0
      clear x0 hA0
      go_wp2_with fail
      refine HHY.out.mono ?_
      rintro e w1 ⟨rfl, hb1⟩
      have HB : Hid (Below w.heap.size w w1) := ext_trans HA0.out hb1
      have x1 := (hb1.cell (p := ⟨w.heap.size, 1, none⟩) hsz).trans HX0.out
      have e0 := (HB.out.cell (p := ⟨b, off + j * 4, none⟩) hb).trans c0
      have e1 := (HB.out.cell (p := ⟨b, off + j * 4 + 1, none⟩) hb).trans c1
      have e2 := (HB.out.cell (p := ⟨b, off + j * 4 + 2, none⟩) hb).trans c2
      have e3 := (HB.out.cell (p := ⟨b, off + j * 4 + 3, none⟩) hb).trans c3
      have hj0 : ¬ ((j : Int) < 0) := by omega
      have hj2 : (j : Int) < 2 := by omega
      clear hb1 HHX HHY HX0 HA0 c0 c1 c2 c3
      go_wp2_with fail
      refine (HIO.out _ HB.out).mono ?_
      rintro e w2 ⟨rfl, hb2⟩
      have HB2 := Lib.hid (ext_trans HB.out hb2)
      go_wp2_with fail
      go_ret
      exact ⟨rfl, HB2.out⟩
end Go.Proofs.YtkdadbpajhdelaaGreatDoor
