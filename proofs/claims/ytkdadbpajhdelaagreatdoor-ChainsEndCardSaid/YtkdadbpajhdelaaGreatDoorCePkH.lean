/- What is proved here: lemmas and contracts for the statement, put together out of smaller texts (CarrRows, CarrBox, FlatSet, OwnK, FwdCmp, FwdCmp2, FwdSort, FwdOrd, CarrTwo, FwdCpt, FwdTidy, FwdRight). No condition beyond those stated. -/
import Derived.Test.YtkdadbpajhdelaaGreatDoorCePkG
import Derived.Test.YtkdadbpajhdelaaGreatDoorCePkF
import Derived.Deep.MidRow
import Derived.Maps.AppendAt
import Derived.Shelf.SlSortCmp.SmallK
import Derived.Test.YtkdadbpajhdelaaGreatDoorShelfFwd
import Derived.Test.YtkdadbpajhdelaaGreatDoorShelf
import Derived.Test.YtkdadbpajhdelaaGreatDoorCePkB
import Derived.Test.YtkdadbpajhdelaaGreatDoorCePkE
import Derived.Test.YtkdadbpajhdelaaGreatDoorCePkC
import Derived.IntWalk
import Derived.Laws.EntriesVeiled
set_option linter.unusedVariables false
set_option linter.unusedSimpArgs false
namespace Go.Proofs.YtkdadbpajhdelaaGreatDoor
open Go.RowKit

structure ShrRow (w : World) (a : Option Addr) (n : Nat) (l : List Shr) : Prop where
  cells : Cells w 2 a n (l.map Shr.cells)
  few : n ≤ 50
  each : ∀ i, i < l.length → (l.getD i noShr).c.length ≤ 100 ∧ -2000000000000 ≤ (l.getD i noShr).part ∧ (l.getD i noShr).part ≤ 2000000000000
theorem ShrRow.below {w w' : World} {a : Option Addr} {n : Nat} {l : List Shr} (h : ShrRow w a n l) (hb : Below w.heap.size w w') : ShrRow w' a n l := ⟨h.cells.below hb, h.few, h.each⟩
theorem ShrRow.len {w : World} {a : Option Addr} {n : Nat} {l : List Shr} (h : ShrRow w a n l) : n = l.length := by have := h.cells.len; simpa using this
theorem ShrRow.at {w : World} {a : Option Addr} {n : Nat} {l : List Shr} (h : ShrRow w a n l) (hn : 0 < n) : ∃ b off, a = some ⟨b, off, none⟩ ∧ b < w.heap.size ∧ ∀ i, i < n → w.cell? ⟨b, off + i * 2, none⟩ = some (.string ⟨(l.getD i noShr).c.toArray⟩) ∧ w.cell? ⟨b, off + i * 2 + 1, none⟩ = some (.int .i64 (l.getD i noShr).part) := by
  have hl := h.len
  rcases h.cells.row with h0 | ⟨b, off, ha, hb, hc⟩
  · omega
  · refine ⟨b, off, ha, hb, fun i hi => ?_⟩
    have k0 := hc i hi 0 (by omega)
    have k1 := hc i hi 1 (by omega)
    rw [getD_map Shr.cells l i noShr [] (by omega)] at k0 k1
    exact ⟨k0, k1⟩
theorem ShrRow.of_own {w : World} {base : Nat} {e : TypeId} {v : Value} {n : Nat} {l : List Shr} (h : w.ownsRow base e 2 v n ((l.map Shr.cells).flatten)) (hf : n ≤ 50) (he : ∀ i, i < l.length → (l.getD i noShr).c.length ≤ 100 ∧ -2000000000000 ≤ (l.getD i noShr).part ∧ (l.getD i noShr).part ≤ 2000000000000) : ∃ a c, v = .slice a n c ∧ n ≤ c ∧ ShrRow w a n l := by
  obtain ⟨a, c, rfl, hcs⟩ := Cells.of_own h (fun x hx => by obtain ⟨y, _, rfl⟩ := List.mem_map.1 hx; rfl) (by decide)
  exact ⟨a, c, rfl, (own_caps h).2, ⟨hcs, hf, he⟩⟩
structure RcdRow (w : World) (a : Option Addr) (n : Nat) (l : List Rcd) : Prop where
  cells : Cells w 8 a n (l.map Rcd.cells)
  few : n ≤ 100
  each : ∀ i, i < l.length → (l.getD i noRcd).id.length ≤ 100 ∧ (l.getD i noRcd).fr.length ≤ 100 ∧ (l.getD i noRcd).to_.length ≤ 100 ∧ (l.getD i noRcd).carrier.length ≤ 100 ∧ (-2000000000000 ≤ (l.getD i noRcd).at_ ∧ (l.getD i noRcd).at_ ≤ 2000000000000) ∧ (-2000000000000 ≤ (l.getD i noRcd).ring ∧ (l.getD i noRcd).ring ≤ 2000000000000) ∧ (-2000000000000 ≤ (l.getD i noRcd).talk ∧ (l.getD i noRcd).talk ≤ 2000000000000) ∧ (-2000000000000 ≤ (l.getD i noRcd).how ∧ (l.getD i noRcd).how ≤ 2000000000000)
theorem RcdRow.below {w w' : World} {a : Option Addr} {n : Nat} {l : List Rcd} (h : RcdRow w a n l) (hb : Below w.heap.size w w') : RcdRow w' a n l := ⟨h.cells.below hb, h.few, h.each⟩
theorem RcdRow.len {w : World} {a : Option Addr} {n : Nat} {l : List Rcd} (h : RcdRow w a n l) : n = l.length := by have := h.cells.len; simpa using this
theorem RcdRow.at {w : World} {a : Option Addr} {n : Nat} {l : List Rcd} (h : RcdRow w a n l) (hn : 0 < n) : ∃ b off, a = some ⟨b, off, none⟩ ∧ b < w.heap.size ∧ ∀ i, i < n → w.cell? ⟨b, off + i * 8, none⟩ = some (.string ⟨(l.getD i noRcd).id.toArray⟩) ∧ w.cell? ⟨b, off + i * 8 + 1, none⟩ = some (.string ⟨(l.getD i noRcd).fr.toArray⟩) ∧ w.cell? ⟨b, off + i * 8 + 2, none⟩ = some (.string ⟨(l.getD i noRcd).to_.toArray⟩) ∧ w.cell? ⟨b, off + i * 8 + 3, none⟩ = some (.int .i64 (l.getD i noRcd).at_) ∧ w.cell? ⟨b, off + i * 8 + 4, none⟩ = some (.int .i64 (l.getD i noRcd).ring) ∧ w.cell? ⟨b, off + i * 8 + 5, none⟩ = some (.int .i64 (l.getD i noRcd).talk) ∧ w.cell? ⟨b, off + i * 8 + 6, none⟩ = some (.int .i64 (l.getD i noRcd).how) ∧ w.cell? ⟨b, off + i * 8 + 7, none⟩ = some (.string ⟨(l.getD i noRcd).carrier.toArray⟩) := by
  have hl := h.len
  rcases h.cells.row with h0 | ⟨b, off, ha, hb, hc⟩
  · omega
  · refine ⟨b, off, ha, hb, fun i hi => ?_⟩
    have k0 := hc i hi 0 (by omega)
    have k1 := hc i hi 1 (by omega)
    have k2 := hc i hi 2 (by omega)
    have k3 := hc i hi 3 (by omega)
    have k4 := hc i hi 4 (by omega)
    have k5 := hc i hi 5 (by omega)
    have k6 := hc i hi 6 (by omega)
    have k7 := hc i hi 7 (by omega)
    rw [getD_map Rcd.cells l i noRcd [] (by omega)] at k0 k1 k2 k3 k4 k5 k6 k7
    exact ⟨k0, k1, k2, k3, k4, k5, k6, k7⟩
theorem RcdRow.of_own {w : World} {base : Nat} {e : TypeId} {v : Value} {n : Nat} {l : List Rcd} (h : w.ownsRow base e 8 v n ((l.map Rcd.cells).flatten)) (hf : n ≤ 100) (he : ∀ i, i < l.length → (l.getD i noRcd).id.length ≤ 100 ∧ (l.getD i noRcd).fr.length ≤ 100 ∧ (l.getD i noRcd).to_.length ≤ 100 ∧ (l.getD i noRcd).carrier.length ≤ 100 ∧ (-2000000000000 ≤ (l.getD i noRcd).at_ ∧ (l.getD i noRcd).at_ ≤ 2000000000000) ∧ (-2000000000000 ≤ (l.getD i noRcd).ring ∧ (l.getD i noRcd).ring ≤ 2000000000000) ∧ (-2000000000000 ≤ (l.getD i noRcd).talk ∧ (l.getD i noRcd).talk ≤ 2000000000000) ∧ (-2000000000000 ≤ (l.getD i noRcd).how ∧ (l.getD i noRcd).how ≤ 2000000000000)) : ∃ a c, v = .slice a n c ∧ n ≤ c ∧ RcdRow w a n l := by
  obtain ⟨a, c, rfl, hcs⟩ := Cells.of_own h (fun x hx => by obtain ⟨y, _, rfl⟩ := List.mem_map.1 hx; rfl) (by decide)
  exact ⟨a, c, rfl, (own_caps h).2, ⟨hcs, hf, he⟩⟩
end Go.Proofs.YtkdadbpajhdelaaGreatDoor

set_option linter.unusedVariables false
set_option linter.unusedSimpArgs false
namespace Go.Proofs.YtkdadbpajhdelaaGreatDoor
open Go.RowKit

theorem own_set {w : World} {base : Nat} {e : TypeId} {size : Nat} {v : Value} {n : Nat} {xs : List Value} (h : w.ownsRow base e size v n xs) {p : Addr} {u : Value} (hp : v.ownBlock ≠ some p.block) : (w.setCell p u).ownsRow base e size v n xs :=
  own_if h (KeepsIf.set (p := fun b => v.ownBlock = some b) (fun b e e' => hp (by rw [e']; exact e))) (fun b e => e)
theorem ne_off {B i j : Nat} (h : i ≠ j) : (⟨B, i, none⟩ : Addr) ≠ ⟨B, j, none⟩ := by intro e; injection e with _ e2 _; exact h e2
theorem ne_blk {B C i j : Nat} (h : B ≠ C) : (⟨B, i, none⟩ : Addr) ≠ ⟨C, j, none⟩ := by intro e; injection e with e1 _ _; exact h e1
theorem box_th {w : World} {B : Nat} {vs : Array Value} {ty : TypeId} (h : w.heap[B]? = some (.cells vs ty (0, 0))) : w.there B 0 vs.size := fun j hj => by
  refine ⟨?_, ?_⟩
  · simp [World.cell?, h, hj]
  · simp [World.frozen?, h]
/-- A place of n cells that can be written. -/
structure Room (w : World) (F n : Nat) : Prop where
  lt : F < w.heap.size
  th : w.there F 0 n
theorem Room.keeps {w w' : World} {F n S : Nat} (h : Room w F n) (hk : Keeps S w w') (hn : F ≠ S) : Room w' F n :=
  ⟨Nat.lt_of_lt_of_le h.lt hk.size, fun j hj => by
    obtain ⟨h1, h2⟩ := h.th j hj
    exact ⟨by rw [hk.cell (p := ⟨F, 0 + j, none⟩) h.lt hn]; exact h1, by rw [hk.frozen (p := ⟨F, 0 + j, none⟩) h.lt hn]; exact h2⟩⟩
theorem Room.below {w w' : World} {F n : Nat} (h : Room w F n) (hb : Below w.heap.size w w') : Room w' F n :=
  ⟨Nat.lt_of_lt_of_le h.lt hb.size, fun j hj => by
    obtain ⟨h1, h2⟩ := h.th j hj
    exact ⟨by rw [hb.cell (p := ⟨F, 0 + j, none⟩) h.lt]; exact h1, by rw [hb.frozen (p := ⟨F, 0 + j, none⟩) h.lt]; exact h2⟩⟩
theorem Room.grown {w w' : World} {F n : Nat} {row : Option Nat} (h : Room w F n) (hg : w.grownBy w' row) (hn : row ≠ some F) : Room w' F n :=
  ⟨Nat.lt_of_lt_of_le h.lt hg.size, fun j hj => by
    obtain ⟨h1, h2⟩ := h.th j hj
    have hb := hg.block F h.lt (fun e => hn e.symm)
    exact ⟨by rw [World.cell?_of_block (a := ⟨F, 0 + j, none⟩) hb]; exact h1, by rw [World.frozen?_of_block (a := ⟨F, 0 + j, none⟩) hb]; exact h2⟩⟩
theorem Room.set {w : World} {F n : Nat} (h : Room w F n) (B o : Nat) (u : Value) : Room (w.setCell ⟨B, o, none⟩ u) F n :=
  ⟨by simpa using h.lt, World.there_setCells h.th B o [u]⟩
theorem below_setCells {S F : Nat} (hS : S ≤ F) : ∀ (vs : List Value) (w : World) (k : Nat), Below S w (w.setCells F k vs)
  | [], w, k => Below.refl _ _
  | v :: vs, w, k => ((Below.refl S w).setCell (p := ⟨F, k, none⟩) hS v).trans (below_setCells hS vs (w.setCell ⟨F, k, none⟩ v) (k + 1))
theorem keeps_setCells {S F : Nat} {a : World} (hF : a.heap.size ≤ F) : ∀ (vs : List Value) (w : World) (k : Nat), Keeps S a w → Keeps S a (w.setCells F k vs)
  | [], w, k, h => h
  | v :: vs, w, k, h => keeps_setCells hF vs (w.setCell ⟨F, k, none⟩ v) (k + 1) (h.setCell_new hF v)
/-- Names in a row. -/
structure Names (w : World) (A n : Nat) (names : List (List UInt8)) : Prop where
  lt : A < w.heap.size
  at_ : ∀ i, i < n → w.cell? ⟨A, i, none⟩ = some (.string ⟨(names.getD i []).toArray⟩)
theorem Names.keeps {w w' : World} {A n S : Nat} {names : List (List UInt8)} (h : Names w A n names) (hk : Keeps S w w') (hn : A ≠ S) : Names w' A n names :=
  ⟨Nat.lt_of_lt_of_le h.lt hk.size, fun i hi => (hk.cell (p := ⟨A, i, none⟩) h.lt hn).trans (h.at_ i hi)⟩
theorem Names.grown {w w' : World} {A n : Nat} {names : List (List UInt8)} {row : Option Nat} (h : Names w A n names) (hg : w.grownBy w' row) (hn : row ≠ some A) : Names w' A n names :=
  ⟨Nat.lt_of_lt_of_le h.lt hg.size, fun i hi => (World.cell?_of_block (a := ⟨A, i, none⟩) (hg.block A h.lt (fun e => hn e.symm))).trans (h.at_ i hi)⟩
theorem Names.set {w : World} {A n : Nat} {names : List (List UInt8)} (h : Names w A n names) {B o : Nat} (hn : B ≠ A) (u : Value) : Names (w.setCell ⟨B, o, none⟩ u) A n names :=
  ⟨by simpa using h.lt, fun i hi => (World.cell?_setCell_other _ _ _ _ (ne_blk hn)).trans (h.at_ i hi)⟩
theorem names_new (W : World) (names : List (List UInt8)) (cs : Array Value) (hcs : cs.toList = names.map fun s => Value.string ⟨s.toArray⟩) (n : Nat) (hn : n = names.length) : Names (W.alloc (.cells cs 9)) W.heap.size n names := by
  subst hn
  have hcs' : cs = (names.map fun s => Value.string ⟨s.toArray⟩).toArray := by rw [← hcs]
  subst hcs'
  exact ⟨by simp, fun i hi => (new_cell W _ 9 (0, 0) i).trans (by simp [hi])⟩
theorem wp_skip {P : Program} {o : Oper} {a : Act} {w w' : World} {K : Act → World → Prop} {Q : Exit → Act → World → Prop} (h : (execOp a.eval o).run P w = .ok .skip w') (hK : K (a.put o.dst undef) w') : o.wp P a w K Q := by
  unfold Oper.wp
  rw [h]
  exact hK
theorem wp_append_own_at {P : Program} {w : World} {o : Oper} {a : Act} {K : Act → World → Prop} {Q : Exit → Act → World → Prop} (s x : Operand) (t : TypeId)
    (ho : o.op = .call { callee := .builtin .append, args := #[s, x], argTypes := #[t, t] })
    (base : Nat) (e : TypeId) (i : TypeInfo) (z : Value) (size bytes : Nat) (ht : P.underlying t = some (.slice e)) (hi : P.info? e = some i) (hz : i.zero = some z)
    (hsize : i.size = size) (hby : i.bytes = bytes) (hzs : z.cells.size = size) (hsz : 0 < size)
    (v : Value) (n : Nat) (xs : List Value) (hs : a.eval s = v) (hown : w.ownsRow base e size v n xs)
    (ad : Addr) (m c : Nat) (news : List Value) (hx : a.eval x = .slice (some ad) m c) (hl : news.length = m * size) (hnews : ∀ j u, news[j]? = some u → w.cell? (ad.add j) = some u) (h1 : ∀ u ∈ news, u.oneCell' = true)
    (h63 : n + m ≤ maxLen) (hbytes : (n + m) * bytes ≤ 140737488355328) (hbase : base ≤ w.heap.size)
    (h : ∀ v' w', w'.ownsRow base e size v' (n + m) (xs ++ news) → w.grownBy w' v.ownBlock → (v'.ownBlock = v.ownBlock ∨ v'.ownBlock = some w.heap.size) → K (a.put o.dst v') w') : o.wp P a w K Q := by
  obtain ⟨v', w', hr, k1, k2, _, k3⟩ := run_append_own_at (P := P) w base t o.type e i z size bytes ht hi hz hsize hby hzs hsz v n xs hown ad m c news hl hnews h1 h63 hbytes hbase
  unfold Oper.wp execOp
  simp only [ho, resolve, invoke, builtin, Sem.run_bind, Sem.run_pure, Result.andThen_ok, List.map_toArray, List.map_cons, List.map_nil, hs, hx, hr]
  exact h v' w' k1 k2 k3
/-- A deck in a box of its own. -/
structure DBox (w : World) (D : Nat) (f s l st : Int) (v : Value) : Prop where
  lt : D < w.heap.size
  c0 : w.cell? ⟨D, 0, none⟩ = some (.int .i64 f)
  c1 : w.cell? ⟨D, 1, none⟩ = some (.int .i64 s)
  c2 : w.cell? ⟨D, 2, none⟩ = some (.int .i64 l)
  c3 : w.cell? ⟨D, 3, none⟩ = some (.int .i64 st)
  c4 : w.cell? ⟨D, 4, none⟩ = some v
  fr : ∀ j, w.frozen? ⟨D, j, none⟩ = false
theorem DBox.keeps {w w' : World} {D S : Nat} {f s l st : Int} {v : Value} (h : DBox w D f s l st v) (hk : Keeps S w w') (hn : D ≠ S) : DBox w' D f s l st v :=
  ⟨Nat.lt_of_lt_of_le h.lt hk.size, (hk.cell (p := ⟨D, 0, none⟩) h.lt hn).trans h.c0, (hk.cell (p := ⟨D, 1, none⟩) h.lt hn).trans h.c1, (hk.cell (p := ⟨D, 2, none⟩) h.lt hn).trans h.c2, (hk.cell (p := ⟨D, 3, none⟩) h.lt hn).trans h.c3, (hk.cell (p := ⟨D, 4, none⟩) h.lt hn).trans h.c4, fun j => (hk.frozen (p := ⟨D, j, none⟩) h.lt hn).trans (h.fr j)⟩
theorem DBox.grown {w w' : World} {D : Nat} {f s l st : Int} {v : Value} {row : Option Nat} (h : DBox w D f s l st v) (hg : w.grownBy w' row) (hn : row ≠ some D) : DBox w' D f s l st v := by
  have hb := hg.block D h.lt (fun e => hn e.symm)
  exact ⟨Nat.lt_of_lt_of_le h.lt hg.size, (World.cell?_of_block (a := ⟨D, 0, none⟩) hb).trans h.c0, (World.cell?_of_block (a := ⟨D, 1, none⟩) hb).trans h.c1, (World.cell?_of_block (a := ⟨D, 2, none⟩) hb).trans h.c2, (World.cell?_of_block (a := ⟨D, 3, none⟩) hb).trans h.c3, (World.cell?_of_block (a := ⟨D, 4, none⟩) hb).trans h.c4, fun j => (World.frozen?_of_block (a := ⟨D, j, none⟩) hb).trans (h.fr j)⟩
theorem DBox.far {w : World} {D : Nat} {f s l st : Int} {v : Value} (h : DBox w D f s l st v) {B o : Nat} (hn : B ≠ D) (u : Value) : DBox (w.setCell ⟨B, o, none⟩ u) D f s l st v :=
  ⟨by simpa using h.lt, (World.cell?_setCell_other _ _ _ _ (ne_blk hn)).trans h.c0, (World.cell?_setCell_other _ _ _ _ (ne_blk hn)).trans h.c1, (World.cell?_setCell_other _ _ _ _ (ne_blk hn)).trans h.c2, (World.cell?_setCell_other _ _ _ _ (ne_blk hn)).trans h.c3, (World.cell?_setCell_other _ _ _ _ (ne_blk hn)).trans h.c4, fun j => (World.frozen?_setCell _ _ _ _).trans (h.fr j)⟩
theorem DBox.s0 {w : World} {D : Nat} {f s l st : Int} {v : Value} (h : DBox w D f s l st v) (z : Int) : DBox (w.setCell ⟨D, 0, none⟩ (.int .i64 z)) D z s l st v :=
  ⟨by simpa using h.lt, World.cell?_setCell_same _ _ _ h.c0, (World.cell?_setCell_other _ _ _ _ (ne_off (by decide))).trans h.c1, (World.cell?_setCell_other _ _ _ _ (ne_off (by decide))).trans h.c2, (World.cell?_setCell_other _ _ _ _ (ne_off (by decide))).trans h.c3, (World.cell?_setCell_other _ _ _ _ (ne_off (by decide))).trans h.c4, fun j => (World.frozen?_setCell _ _ _ _).trans (h.fr j)⟩
theorem DBox.s1 {w : World} {D : Nat} {f s l st : Int} {v : Value} (h : DBox w D f s l st v) (z : Int) : DBox (w.setCell ⟨D, 1, none⟩ (.int .i64 z)) D f z l st v :=
  ⟨by simpa using h.lt, (World.cell?_setCell_other _ _ _ _ (ne_off (by decide))).trans h.c0, World.cell?_setCell_same _ _ _ h.c1, (World.cell?_setCell_other _ _ _ _ (ne_off (by decide))).trans h.c2, (World.cell?_setCell_other _ _ _ _ (ne_off (by decide))).trans h.c3, (World.cell?_setCell_other _ _ _ _ (ne_off (by decide))).trans h.c4, fun j => (World.frozen?_setCell _ _ _ _).trans (h.fr j)⟩
theorem DBox.s2 {w : World} {D : Nat} {f s l st : Int} {v : Value} (h : DBox w D f s l st v) (z : Int) : DBox (w.setCell ⟨D, 2, none⟩ (.int .i64 z)) D f s z st v :=
  ⟨by simpa using h.lt, (World.cell?_setCell_other _ _ _ _ (ne_off (by decide))).trans h.c0, (World.cell?_setCell_other _ _ _ _ (ne_off (by decide))).trans h.c1, World.cell?_setCell_same _ _ _ h.c2, (World.cell?_setCell_other _ _ _ _ (ne_off (by decide))).trans h.c3, (World.cell?_setCell_other _ _ _ _ (ne_off (by decide))).trans h.c4, fun j => (World.frozen?_setCell _ _ _ _).trans (h.fr j)⟩
theorem DBox.s3 {w : World} {D : Nat} {f s l st : Int} {v : Value} (h : DBox w D f s l st v) (z : Int) : DBox (w.setCell ⟨D, 3, none⟩ (.int .i64 z)) D f s l z v :=
  ⟨by simpa using h.lt, (World.cell?_setCell_other _ _ _ _ (ne_off (by decide))).trans h.c0, (World.cell?_setCell_other _ _ _ _ (ne_off (by decide))).trans h.c1, (World.cell?_setCell_other _ _ _ _ (ne_off (by decide))).trans h.c2, World.cell?_setCell_same _ _ _ h.c3, (World.cell?_setCell_other _ _ _ _ (ne_off (by decide))).trans h.c4, fun j => (World.frozen?_setCell _ _ _ _).trans (h.fr j)⟩
theorem DBox.s4 {w : World} {D : Nat} {f s l st : Int} {v : Value} (h : DBox w D f s l st v) (u : Value) : DBox (w.setCell ⟨D, 4, none⟩ u) D f s l st u :=
  ⟨by simpa using h.lt, (World.cell?_setCell_other _ _ _ _ (ne_off (by decide))).trans h.c0, (World.cell?_setCell_other _ _ _ _ (ne_off (by decide))).trans h.c1, (World.cell?_setCell_other _ _ _ _ (ne_off (by decide))).trans h.c2, (World.cell?_setCell_other _ _ _ _ (ne_off (by decide))).trans h.c3, World.cell?_setCell_same _ _ _ h.c4, fun j => (World.frozen?_setCell _ _ _ _).trans (h.fr j)⟩
theorem rcells_snoc (l : List Rate) (r : Rate) : ((l ++ [r]).map Rate.cells).flatten = (l.map Rate.cells).flatten ++ Rate.cells r := by simp
def RatesIn (l : List Rate) : Prop := ∀ r ∈ l, r.p.length ≤ 100 ∧ -2000000000000 ≤ r.price ∧ r.price ≤ 2000000000000
theorem rates_snoc {l : List Rate} {r : Rate} (h : RatesIn l) (h1 : r.p.length ≤ 100) (h2 : -2000000000000 ≤ r.price) (h3 : r.price ≤ 2000000000000) : RatesIn (l ++ [r]) := fun x hx => by
  rcases List.mem_append.1 hx with hx | hx
  · exact h x hx
  · rw [List.mem_singleton.1 hx]; exact ⟨h1, h2, h3⟩
theorem bs_i4 (e : Operand → Value) (he : ∀ v, e (.const v) = v) (o : Oper) (w : World) (z0 z1 z2 z3 : Int) (ho : o.op = .buildSlice 22 4 #[(0, .const (.int .i64 z0)), (1, .const (.int .i64 z1)), (2, .const (.int .i64 z2)), (3, .const (.int .i64 z3))]) :
   (execOp e o).run Tryz.prog w = .ok (.value (.slice (some ⟨w.heap.size, 0, none⟩) 4 4)) (w.alloc (.cells #[.int .i64 z0, .int .i64 z1, .int .i64 z2, .int .i64 z3] 3)) := by
  unfold execOp
  rw [ho]
  simp only [List.map_toArray, List.map_cons, List.map_nil, he]
  kernel_rfl
theorem bs_i3 (e : Operand → Value) (he : ∀ v, e (.const v) = v) (o : Oper) (w : World) (z0 z1 z2 : Int) (ho : o.op = .buildSlice 22 3 #[(0, .const (.int .i64 z0)), (1, .const (.int .i64 z1)), (2, .const (.int .i64 z2))]) :
   (execOp e o).run Tryz.prog w = .ok (.value (.slice (some ⟨w.heap.size, 0, none⟩) 3 3)) (w.alloc (.cells #[.int .i64 z0, .int .i64 z1, .int .i64 z2] 3)) := by
  unfold execOp
  rw [ho]
  simp only [List.map_toArray, List.map_cons, List.map_nil, he]
  kernel_rfl
theorem bs_i5 (e : Operand → Value) (he : ∀ v, e (.const v) = v) (o : Oper) (w : World) (z0 z1 z2 z3 z4 : Int) (ho : o.op = .buildSlice 22 5 #[(0, .const (.int .i64 z0)), (1, .const (.int .i64 z1)), (2, .const (.int .i64 z2)), (3, .const (.int .i64 z3)), (4, .const (.int .i64 z4))]) :
   (execOp e o).run Tryz.prog w = .ok (.value (.slice (some ⟨w.heap.size, 0, none⟩) 5 5)) (w.alloc (.cells #[.int .i64 z0, .int .i64 z1, .int .i64 z2, .int .i64 z3, .int .i64 z4] 3)) := by
  unfold execOp
  rw [ho]
  simp only [List.map_toArray, List.map_cons, List.map_nil, he]
  kernel_rfl
theorem bs_i2 (e : Operand → Value) (he : ∀ v, e (.const v) = v) (o : Oper) (w : World) (z0 z1 : Int) (ho : o.op = .buildSlice 22 2 #[(0, .const (.int .i64 z0)), (1, .const (.int .i64 z1))]) :
   (execOp e o).run Tryz.prog w = .ok (.value (.slice (some ⟨w.heap.size, 0, none⟩) 2 2)) (w.alloc (.cells #[.int .i64 z0, .int .i64 z1] 3)) := by
  unfold execOp
  rw [ho]
  simp only [List.map_toArray, List.map_cons, List.map_nil, he]
  kernel_rfl
theorem bs_s13 (e : Operand → Value) (he : ∀ v, e (.const v) = v) (o : Oper) (w : World)  (p0 p1 p2 p3 p4 p5 p6 p7 p8 p9 p10 p11 p12 : ByteArray) (ho : o.op = .buildSlice 33 13 #[(0, .const (.string p0)), (1, .const (.string p1)), (2, .const (.string p2)), (3, .const (.string p3)), (4, .const (.string p4)), (5, .const (.string p5)), (6, .const (.string p6)), (7, .const (.string p7)), (8, .const (.string p8)), (9, .const (.string p9)), (10, .const (.string p10)), (11, .const (.string p11)), (12, .const (.string p12))])  :
   (execOp e o).run Tryz.prog w = .ok (.value (.slice (some ⟨w.heap.size, 0, none⟩) 13 13)) (w.alloc (.cells #[.string p0, .string p1, .string p2, .string p3, .string p4, .string p5, .string p6, .string p7, .string p8, .string p9, .string p10, .string p11, .string p12] 9)) := by
  unfold execOp
  rw [ho]
  simp only [List.map_toArray, List.map_cons, List.map_nil, he]
  kernel_rfl
theorem bs_s12 (e : Operand → Value) (he : ∀ v, e (.const v) = v) (o : Oper) (w : World)  (p0 p1 p2 p3 p4 p5 p6 p7 p8 p9 p10 p11 : ByteArray) (ho : o.op = .buildSlice 33 12 #[(0, .const (.string p0)), (1, .const (.string p1)), (2, .const (.string p2)), (3, .const (.string p3)), (4, .const (.string p4)), (5, .const (.string p5)), (6, .const (.string p6)), (7, .const (.string p7)), (8, .const (.string p8)), (9, .const (.string p9)), (10, .const (.string p10)), (11, .const (.string p11))])  :
   (execOp e o).run Tryz.prog w = .ok (.value (.slice (some ⟨w.heap.size, 0, none⟩) 12 12)) (w.alloc (.cells #[.string p0, .string p1, .string p2, .string p3, .string p4, .string p5, .string p6, .string p7, .string p8, .string p9, .string p10, .string p11] 9)) := by
  unfold execOp
  rw [ho]
  simp only [List.map_toArray, List.map_cons, List.map_nil, he]
  kernel_rfl
theorem bs_s5r (e : Operand → Value) (he : ∀ v, e (.const v) = v) (o : Oper) (w : World) (i4 : Nat) (p0 p1 p2 p3 p4 : ByteArray) (ho : o.op = .buildSlice 33 5 #[(0, .const (.string p0)), (1, .const (.string p1)), (2, .const (.string p2)), (3, .const (.string p3)), (4, .tmp i4)]) (h4 : e (.tmp i4) = .string p4) :
   (execOp e o).run Tryz.prog w = .ok (.value (.slice (some ⟨w.heap.size, 0, none⟩) 5 5)) (w.alloc (.cells #[.string p0, .string p1, .string p2, .string p3, .string p4] 9)) := by
  unfold execOp
  rw [ho]
  simp only [List.map_toArray, List.map_cons, List.map_nil, he, h4]
  kernel_rfl
end Go.Proofs.YtkdadbpajhdelaaGreatDoor

set_option linter.unusedVariables false
set_option linter.unusedSimpArgs false
namespace Go.Proofs.YtkdadbpajhdelaaGreatDoor
open Go.RowKit

theorem flat_set {α : Type} (f : α → List Value) (k : Nat) (hk : ∀ x, (f x).length = k) : ∀ (l : List α) (r j : Nat) (d y : α) (v : Value), r < l.length → j < k → f y = (f (l.getD r d)).set j v → ((l.set r y).map f).flatten = ((l.map f).flatten).set (r * k + j) v
  | c :: cs, 0, j, d, y, v, _, hj, hy => by
    have hy' : f y = (f c).set j v := hy
    simp only [List.set_cons_zero, List.map_cons, List.flatten_cons, Nat.zero_mul, Nat.zero_add]
    rw [hy', List.set_append_left _ _ (by rw [hk]; exact hj)]
  | c :: cs, r + 1, j, d, y, v, hr, hj, hy => by
    have ih := flat_set f k hk cs r j d y v (by simpa using hr) hj (by simpa using hy)
    have e : (r + 1) * k = r * k + k := Nat.succ_mul r k
    simp only [List.set_cons_succ, List.map_cons, List.flatten_cons]
    rw [List.set_append_right _ _ (by rw [hk]; omega), hk, show (r + 1) * k + j - k = r * k + j by omega, ih]
/-- Field j of element r is written. -/
theorem own_put1 {α : Type} (f : α → List Value) {k : Nat} (hk : ∀ x, (f x).length = k) {w : World} {base g n cap : Nat} {e : TypeId} {l : List α} (h : w.ownsRow base e k (.slice (some ⟨g, 0, none⟩) n cap) n ((l.map f).flatten)) (r j : Nat) (d y : α) (v : Value) (hr : r < l.length) (hj : j < k) (hy : f y = (f (l.getD r d)).set j v) :
    (w.setCell ⟨g, r * k + j, none⟩ v).ownsRow base e k (.slice (some ⟨g, 0, none⟩) n cap) n (((l.set r y).map f).flatten) := by
  rw [flat_set f k hk l r j d y v hr hj hy]
  exact (h.stored _ _).1
theorem flat_atF {α : Type} (f : α → List Value) (k : Nat) (hk : ∀ x, (f x).length = k) : ∀ (l : List α) (r j : Nat) (d : α), r < l.length → j < k → ((l.map f).flatten)[r * k + j]? = (f (l.getD r d))[j]?
  | c :: cs, 0, j, d, _, hj => by
    simp only [List.map_cons, List.flatten_cons, Nat.zero_mul, Nat.zero_add]
    rw [List.getElem?_append_left (by rw [hk]; exact hj)]
    rfl
  | c :: cs, r + 1, j, d, hr, hj => by
    have ih := flat_atF f k hk cs r j d (by simpa using hr) hj
    have e : (r + 1) * k = r * k + k := Nat.succ_mul r k
    simp only [List.map_cons, List.flatten_cons]
    rw [List.getElem?_append_right (by rw [hk]; omega), hk, show (r + 1) * k + j - k = r * k + j by omega, ih]
    simp
theorem flat_length {α : Type} (f : α → List Value) (k : Nat) (hk : ∀ x, (f x).length = k) (l : List α) : ((l.map f).flatten).length = l.length * k := by
  induction l with
  | nil => simp
  | cons c cs ih => simp only [List.map_cons, List.flatten_cons, List.length_append, List.length_cons, ih, hk, Nat.succ_mul]; omega
/-- Field j of element r. -/
theorem own_field {α : Type} (f : α → List Value) {k : Nat} (hk : ∀ x, (f x).length = k) {w : World} {base g n cap : Nat} {e : TypeId} {l : List α} (h : w.ownsRow base e k (.slice (some ⟨g, 0, none⟩) n cap) n ((l.map f).flatten)) (r j : Nat) (d : α) {v : Value} (hr : r < l.length) (hj : j < k) (hv : (f (l.getD r d))[j]? = some v) : w.cell? ⟨g, r * k + j, none⟩ = some v := by
  have hlt : r * k + j < ((l.map f).flatten).length := by
    rw [flat_length f k hk]
    have : (r + 1) * k ≤ l.length * k := Nat.mul_le_mul_right k hr
    rw [Nat.succ_mul] at this
    omega
  have hl := h.1
  have := h.cellAt (r * k + j) (by omega)
  rw [flat_atF f k hk l r j d hr hj, hv] at this
  exact this
theorem own_soft1 {w : World} {base g n c : Nat} {ty : TypeId} {sz : Nat} {xs : List Value} (h : w.ownsRow base ty sz (.slice (some ⟨g, 0, none⟩) n c) n xs) (j : Nat) : w.frozen? ⟨g, j, none⟩ = false := h.frozenAt j
theorem own_pos {w : World} {base : Nat} {e : TypeId} {size : Nat} {a : Option Addr} {m c n : Nat} {xs : List Value} (h : w.ownsRow base e size (.slice a m c) n xs) (hn : 0 < n) : ∃ g, a = some ⟨g, 0, none⟩ ∧ base ≤ g ∧ g < w.heap.size := by
  rcases h.2 with ⟨_, h0⟩ | ⟨g, cap, cur, e1, h2, h3, _⟩
  · omega
  · injection e1 with e1 e2 e3
    exact ⟨g, e1, h2, (Array.getElem?_eq_some_iff.1 h3).1⟩
end Go.Proofs.YtkdadbpajhdelaaGreatDoor

set_option linter.unusedVariables false
set_option linter.unusedSimpArgs false
namespace Go.Proofs.YtkdadbpajhdelaaGreatDoor
open Go.RowKit Go.Sort Go.Lib

theorem flatK_list {α : Type} [Inhabited α] (enc : α → List Value) {k : Nat} (hk : ∀ x, (enc x).length = k) (h0 : 0 < k) (l : List α) : (flatK enc k l.toArray).toList = (l.map enc).flatten := by
  have hL := flat_length enc k hk l
  apply List.ext_getElem?
  intro t
  by_cases ht : t < l.length * k
  · have hd : t / k < l.length := (Nat.div_lt_iff_lt_mul h0).2 ht
    have hm : t % k < k := Nat.mod_lt _ h0
    have h1 := flat_atF enc k hk l (t / k) (t % k) default hd hm
    rw [show t / k * k + t % k = t from Nat.div_add_mod' t k] at h1
    rw [h1, Array.getElem?_toList]
    have hs : t < (flatK enc k l.toArray).size := by simpa using ht
    have h2 := get_flatK enc k l.toArray t (by simpa using ht)
    rw [Array.getElem?_eq_getElem hs]
    rw [getElem!_pos _ t hs] at h2
    rw [h2]
    have e1 : l.toArray[t / k]! = l.getD (t / k) default := by simp [List.getD_eq_getElem?_getD, hd]
    rw [e1]
    have hm2 : t % k < (enc (l.getD (t / k) default)).length := by rw [hk]; exact hm
    rw [List.getElem?_eq_getElem hm2]
    congr 1
    exact getElem!_pos (enc (l.getD (t / k) default)) (t % k) hm2
  · rw [List.getElem?_eq_none (show (flatK enc k l.toArray).toList.length ≤ t by rw [Array.length_toList, size_flatK, List.size_toArray]; omega), List.getElem?_eq_none (by rw [hL]; omega)]
theorem holdsK_own {α : Type} [Inhabited α] (enc : α → List Value) {k : Nat} (hk : ∀ x, (enc x).length = k) (h0 : 0 < k) {w : World} {base g n cap : Nat} {e : TypeId} {l : List α} (h : w.ownsRow base e k (.slice (some ⟨g, 0, none⟩) n cap) n ((l.map enc).flatten)) : HoldsK enc k w g 0 l.toArray := fun t ht => by
  have hL := flat_length enc k hk l
  have hn := h.1
  have ht' : t < l.length * k := by simpa using ht
  refine ⟨?_, h.frozenAt _⟩
  rw [Nat.zero_add, h.cellAt t (by omega), ← flatK_list enc hk h0 l, Array.getElem?_toList, Array.getElem?_eq_getElem ht, getElem!_pos _ t ht]
  rfl
theorem own_putK {α : Type} [Inhabited α] (enc : α → List Value) {k : Nat} (hk : ∀ x, (enc x).length = k) (h0 : 0 < k) {w : World} {base g n cap : Nat} {e : TypeId} {l ys : List α} (h : w.ownsRow base e k (.slice (some ⟨g, 0, none⟩) n cap) n ((l.map enc).flatten)) (hy : ys.length = l.length) (q : Nat) (os : Array Obj) :
    (sortWorldK enc k w g 0 q ys.toArray os).ownsRow base e k (.slice (some ⟨g, 0, none⟩) n cap) n ((ys.map enc).flatten) := by
  have hL := flat_length enc k hk l
  have hY := flat_length enc k hk ys
  have hn := h.1
  rcases h.2 with ⟨e0, _⟩ | ⟨g', cap', cur, e0, hb, hg, hcn, hm, hs, ht⟩
  · cases e0
  · injection e0 with e1 _ e3
    injection e1 with e1
    injection e1 with e1
    subst e1; subst e3
    have hlt : g < w.heap.size := (Array.getElem?_eq_some_iff.1 hg).1
    have hcur : n * k ≤ cur.size := by rw [hs]; exact Nat.mul_le_mul_right k hcn
    have hF : (flatK enc k ys.toArray).size = n * k := by rw [size_flatK, List.size_toArray, hy]; omega
    refine ⟨by rw [hY, hy]; omega, .inr ⟨g, cap, putCells id 0 (flatK enc k ys.toArray) cur, rfl, hb, ?_, hcn, hm, by simpa [putCells] using hs, ?_⟩⟩
    · unfold sortWorldK grow putRowK putRow mapBlock Sort.ahead
      rw [Array.getElem?_append_left (by simpa using hlt)]
      simp [Array.getElem?_modify, hg, onCells]
    · rw [← flatK_list enc hk h0 ys]
      apply List.ext_getElem?
      intro j
      rw [List.getElem?_take]
      by_cases hj : j < n * k
      · have hjc : j < cur.size := by omega
        have hjF : j < (flatK enc k ys.toArray).size := by omega
        rw [if_pos hj, Array.getElem?_toList, Array.getElem?_toList]
        simp only [putCells, Array.getElem?_mapIdx, Array.getElem?_eq_getElem hjc, Option.map_some]
        rw [if_pos ⟨Nat.zero_le _, by omega⟩, Array.getElem?_eq_getElem hjF]
        simp only [Nat.sub_zero, id]
        congr 1
        exact getElem!_pos _ j hjF
      · rw [if_neg hj, List.getElem?_eq_none (by rw [Array.length_toList]; omega)]
theorem below_sortK {α : Type} [Inhabited α] (enc : α → List Value) (k : Nat) {w0 w : World} {B g q : Nat} {d : Array α} (os : Array Obj) (h : Below B w0 w) (hg : B ≤ g) (hB : B ≤ w.heap.size) : Below B w0 (sortWorldK enc k w g 0 q d os) := by
  refine ⟨h.os, h.tape, h.output, ?_, fun i hi => ?_⟩
  · have := h.size
    unfold sortWorldK grow putRowK putRow mapBlock Sort.ahead
    simp
    omega
  · rw [← h.block i hi]
    unfold sortWorldK grow putRowK putRow mapBlock Sort.ahead
    rw [Array.getElem?_append_left (by simp; omega)]
    simp [Array.getElem?_modify, show g ≠ i by omega]
theorem insInnerK_size {α : Type} [Inhabited α] (lt : α → α → Bool) (a : Nat) : ∀ (j : Nat) (d : Array α), (insInner lt a j d).size = d.size
  | 0, d => by unfold insInner; rfl
  | j + 1, d => by
    unfold insInner
    split
    · rw [insInnerK_size lt a j, swp_size]
    · rfl
theorem insOuterK_size {α : Type} [Inhabited α] (lt : α → α → Bool) (a b : Nat) : ∀ (m i : Nat) (d : Array α), b - i ≤ m → (insOuter lt a b i d).size = d.size := by
  intro m
  induction m with
  | zero =>
    intro i d h
    unfold insOuter
    rw [if_neg (by omega)]
  | succ m ih =>
    intro i d h
    unfold insOuter
    split
    · rw [ih _ _ (by omega), insInnerK_size]
    · rfl
/-- A list sorted by insertion. -/
def insL {α : Type} [Inhabited α] (lt : α → α → Bool) (l : List α) : List α := (insertionSort lt l.toArray 0 l.length).toList
theorem insL_len {α : Type} [Inhabited α] (lt : α → α → Bool) (l : List α) : (insL lt l).length = l.length := by
  unfold insL insertionSort
  rw [Array.length_toList, insOuterK_size _ _ _ _ _ _ (Nat.le_refl _)]
  simp
theorem insL_arr {α : Type} [Inhabited α] (lt : α → α → Bool) (l : List α) : insertionSort lt l.toArray 0 l.length = (insL lt l).toArray := by
  unfold insL
  simp
/-- Up to three elements: two orders that agree where a later one is compared with an earlier one sort alike. -/
theorem insL_same {α : Type} [Inhabited α] (lt lt2 : α → α → Bool) (l : List α) (hl : l.length ≤ 3) (h : ∀ i j, i < j → j < l.length → lt (l.getD j default) (l.getD i default) = lt2 (l.getD j default) (l.getD i default)) : insL lt l = insL lt2 l := by
  match l, hl with
  | [], _ =>
    unfold insL insertionSort insOuter
    simp
  | [x], _ =>
    unfold insL insertionSort insOuter
    simp
  | [x, y], _ =>
    have h1 := h 0 1 (by omega) (by simp)
    simp only [List.getD_cons_zero, List.getD_cons_succ] at h1
    have e : ∀ lt : α → α → Bool, insL lt [x, y] = if lt y x = true then [y, x] else [x, y] := fun lt => by
      unfold insL insertionSort
      rw [insOuter, if_pos (by simp), insOuter, if_neg (by simp)]
      cases hq : lt y x <;> simp [insInner, swp, hq]
    rw [e, e, h1]
  | [x, y, z], _ =>
    have h1 := h 0 1 (by omega) (by simp)
    have h2 := h 0 2 (by omega) (by simp)
    have h3 := h 1 2 (by omega) (by simp)
    simp only [List.getD_cons_zero, List.getD_cons_succ] at h1 h2 h3
    have e : ∀ lt : α → α → Bool, insL lt [x, y, z] = if lt y x = true then (if lt z x = true then (if lt z y = true then [z, y, x] else [y, z, x]) else [y, x, z]) else (if lt z y = true then (if lt z x = true then [z, x, y] else [x, z, y]) else [x, y, z]) := fun lt => by
      unfold insL insertionSort
      rw [insOuter, if_pos (by simp), insOuter, if_pos (by simp), insOuter, if_neg (by simp)]
      cases hq : lt y x <;> cases hr : lt z x <;> cases ht : lt z y <;> simp [insInner, swp, hq, hr, ht]
    rw [e, e, h1, h2, h3]
end Go.Proofs.YtkdadbpajhdelaaGreatDoor

set_option linter.unusedVariables false
set_option linter.unusedSimpArgs false
namespace Go.Proofs.YtkdadbpajhdelaaGreatDoor
open Go.RowKit Go.Lib Go.Sort Go.Shelf

theorem grow_oneF (W : World) (o : Obj) : W.alloc o = grow (W.drewN 0) #[o] := by
  rw [alloc_eq_grow]
  rfl
theorem cat_keyF (l h : List UInt8) (d : UInt8) : ((⟨l.toArray⟩ : ByteArray) ++ ⟨#[32]⟩ ++ ⟨#[d]⟩ ++ ⟨#[32]⟩ ++ ⟨h.toArray⟩) = ⟨(l ++ [32, d, 32] ++ h).toArray⟩ := by
  apply ByteArray.ext
  simp
set_option maxRecDepth 100000 in
theorem keyF_any (f : Fwd) (W : World) : Calls Tryz.prog 68 #[.agg f.cells.toArray] W fun e w' => e = .returned (.string ⟨f.key.toArray⟩) ∧ w' = grow (W.drewN 0) #[.cells f.cells.toArray 46] := by
  obtain ⟨l, w, t, h⟩ := f
  have HG := Lib.hid (grow_oneF W)
  show Calls Tryz.prog 68 #[.agg #[.string ⟨#[108, 97 + l.val.toUInt8]⟩, .int .i64 (w.val + 1 : Nat), .string ⟨(lineK t).toArray⟩, .string ⟨(hourK h).toArray⟩]] W fun e w' => e = .returned (.string ⟨(lineK l ++ [32, 49 + w.val.toUInt8, 32] ++ hourK h).toArray⟩) ∧ w' = grow (W.drewN 0) #[.cells #[.string ⟨#[108, 97 + l.val.toUInt8]⟩, .int .i64 (w.val + 1 : Nat), .string ⟨(lineK t).toArray⟩, .string ⟨(hourK h).toArray⟩] 46]
  unfold lineK
  generalize 97 + l.val.toUInt8 = c
  generalize (97 : UInt8) + t.val.toUInt8 = d
  match w, h with
  | ⟨0, _⟩, ⟨0, _⟩ =>
    go_enter Tryz.func68, Tryz.ntmps68
    go_wp2_with fail
    go_ret
    exact ⟨rfl, HG.out _⟩
  | ⟨0, _⟩, ⟨1, _⟩ =>
    go_enter Tryz.func68, Tryz.ntmps68
    go_wp2_with fail
    go_ret
    exact ⟨rfl, HG.out _⟩
  | ⟨1, _⟩, ⟨0, _⟩ =>
    go_enter Tryz.func68, Tryz.ntmps68
    go_wp2_with fail
    go_ret
    exact ⟨rfl, HG.out _⟩
  | ⟨1, _⟩, ⟨1, _⟩ =>
    go_enter Tryz.func68, Tryz.ntmps68
    go_wp2_with fail
    go_ret
    exact ⟨rfl, HG.out _⟩
  | ⟨2, _⟩, ⟨0, _⟩ =>
    go_enter Tryz.func68, Tryz.ntmps68
    go_wp2_with fail
    go_ret
    exact ⟨rfl, HG.out _⟩
  | ⟨2, _⟩, ⟨1, _⟩ =>
    go_enter Tryz.func68, Tryz.ntmps68
    go_wp2_with fail
    go_ret
    exact ⟨rfl, HG.out _⟩
end Go.Proofs.YtkdadbpajhdelaaGreatDoor

set_option linter.unusedVariables false
set_option linter.unusedSimpArgs false
namespace Go.Proofs.YtkdadbpajhdelaaGreatDoor
open Go.RowKit Go.Lib Go.Sort Go.Shelf

theorem grow_moreF (W : World) (q : Nat) (a b : Array Obj) : grow ((grow (W.drewN q) a).drewN 0) b = grow (W.drewN q) (a ++ b) := by
  show grow (grow (W.drewN q) a) b = _
  rw [grow_grow]
theorem below_growF (W : World) (q : Nat) (a : Array Obj) : Below W.heap.size W (grow (W.drewN q) a) := by
  have hb : Below W.heap.size W (W.drewN q) := ext_drewN (Below.refl _ _)
  refine ⟨hb.os, hb.tape, hb.output, ?_, ?_⟩
  · unfold grow; simp
  · intro k hk
    unfold grow
    simp only []
    rw [Array.getElem?_append_left (by simpa using hk)]
    rfl
theorem key_same : ∀ (a : Fin 4) (b : Fin 3) (c : Fin 2) (x : Fin 4) (y : Fin 3) (z : Fin 2), ((lineK a ++ [32, 49 + b.val.toUInt8, 32] ++ hourK c) == (lineK x ++ [32, 49 + y.val.toUInt8, 32] ++ hourK z)) = decide ((a * 6 + b * 2 + c : Nat) = (x * 6 + y * 2 + z : Nat)) := by decide +kernel
theorem box_two (W : World) (a b : Obj) : ((W.alloc a).alloc b).drew = grow (W.drewN 1) #[a, b] := by
  rw [alloc_eq_grow W a, alloc_eq_grow _ b, grow_grow]
  rfl
set_option maxRecDepth 100000 in
set_option maxHeartbeats 2000000 in
theorem cmp2_core (xl xt xh yl yt yh kx ky : ByteArray) (xz yz : Int) (ox oy : Array Obj)
    (hx : ∀ W, Calls Tryz.prog 68 #[.agg #[.string xl, .int .i64 xz, .string xt, .string xh]] W fun e w' => e = .returned (.string kx) ∧ w' = grow (W.drewN 0) ox) (hy : ∀ W, Calls Tryz.prog 68 #[.agg #[.string yl, .int .i64 yz, .string yt, .string yh]] W fun e w' => e = .returned (.string ky) ∧ w' = grow (W.drewN 0) oy)
    (K : Nat) (W : World) (hK : K < W.heap.size) (c0 : W.cell? ⟨K, 0, none⟩ = some (.func (.func 68) #[] #[])) :
    Calls Tryz.prog 70 #[.agg #[.string xl, .int .i64 xz, .string xt, .string xh], .agg #[.string yl, .int .i64 yz, .string yt, .string yh], .pointer (some ⟨K, 0, none⟩)] W fun e w' => e = .returned (.int .i64 (Lib.compareBytes kx.data.toList ky.data.toList)) ∧ ∃ q os', w' = grow (W.drewN q) os' := by
  have HX := Lib.hid hx
  have HY := Lib.hid hy
  have hne1 : K ≠ W.heap.size := by omega
  have hne2 : K ≠ W.heap.size + 1 := by omega
  obtain ⟨A, hA⟩ : ∃ A, A = ((W.alloc (.cells #[.string xl, .int .i64 xz, .string xt, .string xh] 46)).alloc (.cells #[.string yl, .int .i64 yz, .string yt, .string yh] 46)).drew := ⟨_, rfl⟩
  have HG0 : Hid (A = grow (W.drewN 1) #[.cells #[.string xl, .int .i64 xz, .string xt, .string xh] 46, .cells #[.string yl, .int .i64 yz, .string yt, .string yh] 46]) := by rw [hA]; exact box_two _ _ _
  have hAB : Below W.heap.size W A := by rw [hA]; exact ext_drew (ext_alloc (ext_alloc (Below.refl _ _)))
  have hs1 : (W.alloc (.cells #[.string xl, .int .i64 xz, .string xt, .string xh] 46)).heap.size = W.heap.size + 1 := by simp
  have BX : Blk A W.heap.size [.string xl, .int .i64 xz, .string xt, .string xh] 46 := by rw [hA]; exact (((Blk.new W _ _).alloc _).same rfl)
  have BY : Blk A (W.heap.size + 1) [.string yl, .int .i64 yz, .string yt, .string yh] 46 := by
    rw [hA]
    have := Blk.new (W.alloc (.cells #[.string xl, .int .i64 xz, .string xt, .string xh] 46)) [.string yl, .int .i64 yz, .string yt, .string yh] 46
    rw [hs1] at this
    exact this.same rfl
  have hKA : K < A.heap.size := Nat.lt_of_lt_of_le hK hAB.size
  have HCEL : Hid (∀ W9, Below A.heap.size A W9 → W9.cell? ⟨K, 0, none⟩ = some (.func (.func 68) #[] #[]) ∧ (W9.cell? ⟨W.heap.size, 0, none⟩ = some (.string xl) ∧ W9.cell? ⟨W.heap.size, 1, none⟩ = some (.int .i64 xz) ∧ W9.cell? ⟨W.heap.size, 2, none⟩ = some (.string xt) ∧ W9.cell? ⟨W.heap.size, 3, none⟩ = some (.string xh)) ∧ (W9.cell? ⟨W.heap.size + 1, 0, none⟩ = some (.string yl) ∧ W9.cell? ⟨W.heap.size + 1, 1, none⟩ = some (.int .i64 yz) ∧ W9.cell? ⟨W.heap.size + 1, 2, none⟩ = some (.string yt) ∧ W9.cell? ⟨W.heap.size + 1, 3, none⟩ = some (.string yh))) := fun W9 hW =>
    ⟨(hW.cell (p := ⟨K, 0, none⟩) hKA).trans ((hAB.cell (p := ⟨K, 0, none⟩) hK).trans c0), ⟨(BX.below hW).cell 0 rfl, (BX.below hW).cell 1 rfl, (BX.below hW).cell 2 rfl, (BX.below hW).cell 3 rfl⟩, ⟨(BY.below hW).cell 0 rfl, (BY.below hW).cell 1 rfl, (BY.below hW).cell 2 rfl, (BY.below hW).cell 3 rfl⟩⟩
  have HAD := Lib.hid hA
  clear hx hy hAB BX BY hKA hs1 c0 hA
  go_enter Tryz.func70, Tryz.ntmps70
  go_upto_region 1 with (fail)
  refine region_seqI (S := fun W9 => Below A.heap.size A W9) [(true, 0), (true, 1), (true, 3), (true, 4), (false, 2), (false, 5), (false, 6), (true, 7)] (by kernel_rfl) (by kernel_rfl) rfl (by kernel_rfl) (by rw [← HAD.out]; exact Below.refl _ _) ?_
  rw [← HAD.out]
  simp only [seqOps, List.getD_cons_zero, List.getD_cons_succ]
  refine seqI_take (v := .func (.func 68) #[] #[]) rfl (fun W9 hW => by obtain ⟨m0, ⟨x0, x1, x2, x3⟩, ⟨y0, y1, y2, y3⟩⟩ := HCEL.out W9 hW; go_simp) (fun _ _ _ h => h) ?_
  simp only [Act.put, List.setIfInBounds_toArray, List.set_cons_zero, List.set_cons_succ]
  refine seqI_take (v := .agg #[.string xl, .int .i64 xz, .string xt, .string xh]) rfl (fun W9 hW => by obtain ⟨m0, ⟨x0, x1, x2, x3⟩, ⟨y0, y1, y2, y3⟩⟩ := HCEL.out W9 hW; go_simp) (fun _ _ _ h => h) ?_
  simp only [Act.put, List.setIfInBounds_toArray, List.set_cons_zero, List.set_cons_succ]
  refine seqI_take (v := .func (.func 68) #[] #[]) rfl (fun W9 hW => by obtain ⟨m0, ⟨x0, x1, x2, x3⟩, ⟨y0, y1, y2, y3⟩⟩ := HCEL.out W9 hW; go_simp) (fun _ _ _ h => h) ?_
  simp only [Act.put, List.setIfInBounds_toArray, List.set_cons_zero, List.set_cons_succ]
  refine seqI_take (v := .agg #[.string yl, .int .i64 yz, .string yt, .string yh]) rfl (fun W9 hW => by obtain ⟨m0, ⟨x0, x1, x2, x3⟩, ⟨y0, y1, y2, y3⟩⟩ := HCEL.out W9 hW; go_simp) (fun _ _ _ h => h) ?_
  simp only [Act.put, List.setIfInBounds_toArray, List.set_cons_zero, List.set_cons_succ]
  refine seqI_call _ _ rfl (by go_simp) (HX.out A) ?_
  rintro e w1 ⟨rfl, hw1⟩
  have hb1 : Below A.heap.size A w1 := by rw [hw1]; exact below_growF A 0 _
  have HG1 : Hid (w1 = grow (W.drewN 1) (#[.cells #[.string xl, .int .i64 xz, .string xt, .string xh] 46, .cells #[.string yl, .int .i64 yz, .string yt, .string yh] 46] ++ ox)) := by show w1 = _; rw [hw1, HG0.out, grow_moreF]
  refine ⟨_, rfl, hb1, ?_⟩
  clear hw1 HX
  simp only [Act.put, List.setIfInBounds_toArray, List.set_cons_zero, List.set_cons_succ]
  refine seqI_call _ _ rfl (by go_simp) (HY.out w1) ?_
  rintro e w2 ⟨rfl, hw2⟩
  have hb2 : Below A.heap.size A w2 := by rw [hw2]; exact ext_trans hb1 (below_growF w1 0 _)
  have HG2 : Hid (w2 = grow (W.drewN 1) (#[.cells #[.string xl, .int .i64 xz, .string xt, .string xh] 46, .cells #[.string yl, .int .i64 yz, .string yt, .string yh] 46] ++ ox ++ oy)) := by show w2 = _; rw [hw2, HG1.out, grow_moreF]
  refine ⟨_, rfl, hb2, ?_⟩
  clear hw2 HY
  simp only [Act.put, List.setIfInBounds_toArray, List.set_cons_zero, List.set_cons_succ]
  refine seqI_call _ _ rfl (by go_simp) (Tryz.strings_Compare kx ky w2) ?_
  rintro e w3 ⟨rfl, rfl⟩
  refine ⟨_, rfl, hb2, ?_⟩
  simp only [Act.put, List.setIfInBounds_toArray, List.set_cons_zero, List.set_cons_succ]
  refine seqI_take (v := .int .i64 (Lib.compareBytes kx.data.toList ky.data.toList)) rfl (fun W9 hW => by clear hW; go_simp) (fun _ _ _ h => h) ?_
  simp only [Act.put, List.setIfInBounds_toArray, List.set_cons_zero, List.set_cons_succ]
  refine seqI_nil ?_
  clear hb1 hb2 HCEL HAD
  go_wp2_with fail
  go_ret
  exact ⟨rfl, 1, _, HG2.out⟩
set_option maxRecDepth 100000 in
set_option maxHeartbeats 2000000 in
theorem eq3_core (xl xt xh yl yt yh kx ky : ByteArray) (xz yz : Int) (ox oy : Array Obj)
    (hx : ∀ W, Calls Tryz.prog 68 #[.agg #[.string xl, .int .i64 xz, .string xt, .string xh]] W fun e w' => e = .returned (.string kx) ∧ w' = grow (W.drewN 0) ox) (hy : ∀ W, Calls Tryz.prog 68 #[.agg #[.string yl, .int .i64 yz, .string yt, .string yh]] W fun e w' => e = .returned (.string ky) ∧ w' = grow (W.drewN 0) oy)
    (K : Nat) (W : World) (hK : K < W.heap.size) (c0 : W.cell? ⟨K, 0, none⟩ = some (.func (.func 68) #[] #[])) :
    Calls Tryz.prog 73 #[.agg #[.string xl, .int .i64 xz, .string xt, .string xh], .agg #[.string yl, .int .i64 yz, .string yt, .string yh], .pointer (some ⟨K, 0, none⟩)] W fun e w' => e = .returned (.bool (kx.toList == ky.toList)) ∧ ∃ q os', w' = grow (W.drewN q) os' := by
  have HX := Lib.hid hx
  have HY := Lib.hid hy
  have hne1 : K ≠ W.heap.size := by omega
  have hne2 : K ≠ W.heap.size + 1 := by omega
  obtain ⟨A, hA⟩ : ∃ A, A = ((W.alloc (.cells #[.string xl, .int .i64 xz, .string xt, .string xh] 46)).alloc (.cells #[.string yl, .int .i64 yz, .string yt, .string yh] 46)).drew := ⟨_, rfl⟩
  have HG0 : Hid (A = grow (W.drewN 1) #[.cells #[.string xl, .int .i64 xz, .string xt, .string xh] 46, .cells #[.string yl, .int .i64 yz, .string yt, .string yh] 46]) := by rw [hA]; exact box_two _ _ _
  have hAB : Below W.heap.size W A := by rw [hA]; exact ext_drew (ext_alloc (ext_alloc (Below.refl _ _)))
  have hs1 : (W.alloc (.cells #[.string xl, .int .i64 xz, .string xt, .string xh] 46)).heap.size = W.heap.size + 1 := by simp
  have BX : Blk A W.heap.size [.string xl, .int .i64 xz, .string xt, .string xh] 46 := by rw [hA]; exact (((Blk.new W _ _).alloc _).same rfl)
  have BY : Blk A (W.heap.size + 1) [.string yl, .int .i64 yz, .string yt, .string yh] 46 := by
    rw [hA]
    have := Blk.new (W.alloc (.cells #[.string xl, .int .i64 xz, .string xt, .string xh] 46)) [.string yl, .int .i64 yz, .string yt, .string yh] 46
    rw [hs1] at this
    exact this.same rfl
  have hKA : K < A.heap.size := Nat.lt_of_lt_of_le hK hAB.size
  have HCEL : Hid (∀ W9, Below A.heap.size A W9 → W9.cell? ⟨K, 0, none⟩ = some (.func (.func 68) #[] #[]) ∧ (W9.cell? ⟨W.heap.size, 0, none⟩ = some (.string xl) ∧ W9.cell? ⟨W.heap.size, 1, none⟩ = some (.int .i64 xz) ∧ W9.cell? ⟨W.heap.size, 2, none⟩ = some (.string xt) ∧ W9.cell? ⟨W.heap.size, 3, none⟩ = some (.string xh)) ∧ (W9.cell? ⟨W.heap.size + 1, 0, none⟩ = some (.string yl) ∧ W9.cell? ⟨W.heap.size + 1, 1, none⟩ = some (.int .i64 yz) ∧ W9.cell? ⟨W.heap.size + 1, 2, none⟩ = some (.string yt) ∧ W9.cell? ⟨W.heap.size + 1, 3, none⟩ = some (.string yh))) := fun W9 hW =>
    ⟨(hW.cell (p := ⟨K, 0, none⟩) hKA).trans ((hAB.cell (p := ⟨K, 0, none⟩) hK).trans c0), ⟨(BX.below hW).cell 0 rfl, (BX.below hW).cell 1 rfl, (BX.below hW).cell 2 rfl, (BX.below hW).cell 3 rfl⟩, ⟨(BY.below hW).cell 0 rfl, (BY.below hW).cell 1 rfl, (BY.below hW).cell 2 rfl, (BY.below hW).cell 3 rfl⟩⟩
  have HAD := Lib.hid hA
  clear hx hy hAB BX BY hKA hs1 c0 hA
  go_enter Tryz.func73, Tryz.ntmps73
  go_upto_region 1 with (fail)
  refine region_seqI (S := fun W9 => Below A.heap.size A W9) [(true, 0), (true, 1), (true, 3), (true, 4), (false, 2), (false, 5), (true, 6), (true, 7)] (by kernel_rfl) (by kernel_rfl) rfl (by kernel_rfl) (by rw [← HAD.out]; exact Below.refl _ _) ?_
  rw [← HAD.out]
  simp only [seqOps, List.getD_cons_zero, List.getD_cons_succ]
  refine seqI_take (v := .func (.func 68) #[] #[]) rfl (fun W9 hW => by obtain ⟨m0, ⟨x0, x1, x2, x3⟩, ⟨y0, y1, y2, y3⟩⟩ := HCEL.out W9 hW; go_simp) (fun _ _ _ h => h) ?_
  simp only [Act.put, List.setIfInBounds_toArray, List.set_cons_zero, List.set_cons_succ]
  refine seqI_take (v := .agg #[.string xl, .int .i64 xz, .string xt, .string xh]) rfl (fun W9 hW => by obtain ⟨m0, ⟨x0, x1, x2, x3⟩, ⟨y0, y1, y2, y3⟩⟩ := HCEL.out W9 hW; go_simp) (fun _ _ _ h => h) ?_
  simp only [Act.put, List.setIfInBounds_toArray, List.set_cons_zero, List.set_cons_succ]
  refine seqI_take (v := .func (.func 68) #[] #[]) rfl (fun W9 hW => by obtain ⟨m0, ⟨x0, x1, x2, x3⟩, ⟨y0, y1, y2, y3⟩⟩ := HCEL.out W9 hW; go_simp) (fun _ _ _ h => h) ?_
  simp only [Act.put, List.setIfInBounds_toArray, List.set_cons_zero, List.set_cons_succ]
  refine seqI_take (v := .agg #[.string yl, .int .i64 yz, .string yt, .string yh]) rfl (fun W9 hW => by obtain ⟨m0, ⟨x0, x1, x2, x3⟩, ⟨y0, y1, y2, y3⟩⟩ := HCEL.out W9 hW; go_simp) (fun _ _ _ h => h) ?_
  simp only [Act.put, List.setIfInBounds_toArray, List.set_cons_zero, List.set_cons_succ]
  refine seqI_call _ _ rfl (by go_simp) (HX.out A) ?_
  rintro e w1 ⟨rfl, hw1⟩
  have hb1 : Below A.heap.size A w1 := by rw [hw1]; exact below_growF A 0 _
  have HG1 : Hid (w1 = grow (W.drewN 1) (#[.cells #[.string xl, .int .i64 xz, .string xt, .string xh] 46, .cells #[.string yl, .int .i64 yz, .string yt, .string yh] 46] ++ ox)) := by show w1 = _; rw [hw1, HG0.out, grow_moreF]
  refine ⟨_, rfl, hb1, ?_⟩
  clear hw1 HX
  simp only [Act.put, List.setIfInBounds_toArray, List.set_cons_zero, List.set_cons_succ]
  refine seqI_call _ _ rfl (by go_simp) (HY.out w1) ?_
  rintro e w2 ⟨rfl, hw2⟩
  have hb2 : Below A.heap.size A w2 := by rw [hw2]; exact ext_trans hb1 (below_growF w1 0 _)
  have HG2 : Hid (w2 = grow (W.drewN 1) (#[.cells #[.string xl, .int .i64 xz, .string xt, .string xh] 46, .cells #[.string yl, .int .i64 yz, .string yt, .string yh] 46] ++ ox ++ oy)) := by show w2 = _; rw [hw2, HG1.out, grow_moreF]
  refine ⟨_, rfl, hb2, ?_⟩
  clear hw2 HY
  simp only [Act.put, List.setIfInBounds_toArray, List.set_cons_zero, List.set_cons_succ]
  refine seqI_take (v := .bool (kx.toList == ky.toList)) rfl (fun W9 hW => by clear hW; go_simp) (fun _ _ _ h => h) ?_
  simp only [Act.put, List.setIfInBounds_toArray, List.set_cons_zero, List.set_cons_succ]
  refine seqI_take (v := .bool (kx.toList == ky.toList)) rfl (fun W9 hW => by clear hW; go_simp) (fun _ _ _ h => h) ?_
  simp only [Act.put, List.setIfInBounds_toArray, List.set_cons_zero, List.set_cons_succ]
  refine seqI_nil ?_
  clear hb1 hb2 HCEL HAD
  go_wp2_with fail
  go_ret
  exact ⟨rfl, 1, _, HG2.out⟩
theorem cmp2_any (x y : Fwd) (K : Nat) (W : World) (hK : K < W.heap.size) (c0 : W.cell? ⟨K, 0, none⟩ = some (.func (.func 68) #[] #[])) :
    Calls Tryz.prog 70 #[.agg x.cells.toArray, .agg y.cells.toArray, .pointer (some ⟨K, 0, none⟩)] W fun e w' => e = .returned (.int .i64 (keyCF x y)) ∧ ∃ q os', w' = grow (W.drewN q) os' :=
  cmp2_core _ _ _ _ _ _ ⟨x.key.toArray⟩ ⟨y.key.toArray⟩ _ _ _ _ (keyF_any x) (keyF_any y) K W hK c0
theorem eq3_any (x y : Fwd) (K : Nat) (W : World) (hK : K < W.heap.size) (c0 : W.cell? ⟨K, 0, none⟩ = some (.func (.func 68) #[] #[])) :
    Calls Tryz.prog 73 #[.agg x.cells.toArray, .agg y.cells.toArray, .pointer (some ⟨K, 0, none⟩)] W fun e w' => e = .returned (.bool (decide (x.code = y.code))) ∧ Below W.heap.size W w' := by
  refine (eq3_core _ _ _ _ _ _ ⟨x.key.toArray⟩ ⟨y.key.toArray⟩ _ _ _ _ (keyF_any x) (keyF_any y) K W hK c0).mono ?_
  rintro e w' ⟨rfl, q, os, rfl⟩
  refine ⟨?_, below_growF _ _ _⟩
  have e : ((⟨x.key.toArray⟩ : ByteArray).toList == (⟨y.key.toArray⟩ : ByteArray).toList) = decide (x.code = y.code) := by
    rw [Go.ByteArray.toList_eq, Go.ByteArray.toList_eq]
    exact key_same x.line x.wh x.hr y.line y.wh y.hr
  rw [e]
end Go.Proofs.YtkdadbpajhdelaaGreatDoor

set_option linter.unusedVariables false
set_option linter.unusedSimpArgs false
namespace Go.Proofs.YtkdadbpajhdelaaGreatDoor
open Go.RowKit Go.Sort Go.Lib Go.Shelf

def FwRow (w : World) (base : Nat) (v : Value) (l : List Fwd) : Prop := w.ownsRow base 46 4 v l.length ((l.map Fwd.cells).flatten)
def FSortPost (base : Nat) (v : Value) (l : List Fwd) (w : World) (e : Ending) (w' : World) : Prop := e = .returned (.tuple #[]) ∧ FwRow w' base v l ∧ w.grownBy w' v.ownBlock
theorem fwd_one : ∀ (x : Fwd), ∀ v ∈ Fwd.cells x, v.oneCell' = true := fun x v hv => by
  simp only [Fwd.cells, List.mem_cons, List.not_mem_nil, or_false] at hv
  rcases hv with rfl | rfl | rfl | rfl <;> rfl
theorem sortK_block {α : Type} [Inhabited α] (enc : α → List Value) (k : Nat) (w : World) (g q K : Nat) (d : Array α) (os : Array Obj) (hK : K < w.heap.size) (hne : K ≠ g) : (sortWorldK enc k w g 0 q d os).heap[K]? = w.heap[K]? := by
  unfold sortWorldK grow putRowK putRow mapBlock Sort.ahead
  rw [Array.getElem?_append_left (by simp; omega)]
  simp [Array.getElem?_modify, Ne.symm hne]
theorem sortK_size {α : Type} [Inhabited α] (enc : α → List Value) (k : Nat) (w : World) (g q : Nat) (d : Array α) (os : Array Obj) : w.heap.size ≤ (sortWorldK enc k w g 0 q d os).heap.size := by
  unfold sortWorldK grow putRowK putRow mapBlock Sort.ahead
  simp
theorem gb_sortK {α : Type} [Inhabited α] (enc : α → List Value) (k : Nat) (w : World) (g q : Nat) (d : Array α) (os : Array Obj) : w.grownBy (sortWorldK enc k w g 0 q d os) (some g) := by
  have h := below_sortK enc k os (q := q) (d := d) (Below.refl 0 w) (Nat.zero_le g) (Nat.zero_le _)
  exact ⟨h.os, h.tape, h.output, h.size, fun j hj hn => sortK_block enc k w g q j d os hj (fun e => hn (by rw [e]))⟩
theorem cmpF_lays (K blk size : Nat) (w : World) (hK : K < w.heap.size) (hne : K ≠ blk) (c0 : w.cell? ⟨K, 0, none⟩ = some (.func (.func 68) #[] #[])) : CmpLays Tryz.prog 70 #[.pointer (some ⟨K, 0, none⟩)] Fwd.cells 4 keyCF blk 0 size w := fun m os dk _ x y =>
  cmp2_any x y K _ (Nat.lt_of_lt_of_le hK (sortK_size _ _ _ _ _ _ _)) (by rw [World.cell?_of_block (a := ⟨K, 0, none⟩) (sortK_block Fwd.cells 4 w blk m K dk os hK hne)]; exact c0)
/-- Nothing is sorted. -/
theorem insFw_nil (c : Nat) (a : Option Addr) (fv : Value) (w : World) : Calls Tryz.prog 156 #[.slice a 0 c, .int .i64 0, .int .i64 0, fv] w fun e w' => e = .returned (.tuple #[]) ∧ w = w' := by
  go_enter Tryz.func156, Tryz.ntmps156
  go_wp2_with fail
  go_loopw [8] (fun i wr => i = .int .i64 1 ∧ wr = w) (fun _ _ => 0)
  case atStart => exact ⟨rfl, rfl⟩
  case round =>
    obtain ⟨rfl, rfl⟩ := hrel
    go_wp2_with fail
    go_end0
    exact ⟨rfl, rfl⟩
theorem stableF_any (w : World) (base : Nat) (v : Value) (l : List Fwd) (h : FwRow w base v l) (hl : l.length ≤ 12) (K : Nat) (hK : K < w.heap.size) (hne : v.ownBlock ≠ some K) (c0 : w.cell? ⟨K, 0, none⟩ = some (.func (.func 68) #[] #[])) : Calls Tryz.prog 69 #[v, .func (.func 70) #[] #[.pointer (some ⟨K, 0, none⟩)]] w (FSortPost base v (insL (ltOf keyCF) l) w) := by
  unfold FwRow at h
  obtain ⟨a, c, rfl⟩ := own_shape h
  have HINS : Hid (Calls Tryz.prog 156 #[.slice a l.length c, .int .i64 0, .int .i64 l.length, .func (.func 70) #[] #[.pointer (some ⟨K, 0, none⟩)]] w (FSortPost base (.slice a l.length c) (insL (ltOf keyCF) l) w)) := by
    show Calls _ _ _ _ _
    by_cases h0 : l.length = 0
    · have hx : l = [] := List.eq_nil_of_length_eq_zero h0
      subst hx
      have e1 : insL (ltOf keyCF) ([] : List Fwd) = [] := by unfold insL insertionSort insOuter; simp
      rw [e1]
      refine (insFw_nil c a _ w).mono ?_
      rintro e w' ⟨rfl, rfl⟩
      exact ⟨rfl, h, gb_of_below (Below.refl _ _)⟩
    · obtain ⟨g, rfl, hg1, hg2⟩ := own_pos h (by omega)
      have hcon := Tryz.slices_insFw Fwd.cells (fun _ => rfl) fwd_one keyCF 70 #[.pointer (some ⟨K, 0, none⟩)] g 0 c 0 l.length l.toArray w (enters_of Tryz.func70 (by kernel_rfl) rfl) (cmpF_lays K g _ w hK (fun e => hne (by rw [e]; rfl)) c0) (holdsK_own Fwd.cells (fun _ => rfl) (by omega) h) hg2 (Nat.zero_le _) (by simp) (by simp; omega)
      refine Calls.mono hcon ?_
      rintro e w' ⟨rfl, q, os, rfl⟩
      rw [insL_arr]
      refine ⟨rfl, ?_, gb_sortK Fwd.cells 4 w g q _ os⟩
      unfold FwRow
      rw [insL_len]
      exact own_putK Fwd.cells (fun _ => rfl) (by omega) h (insL_len _ _) q os
  have hl12 := hl
  clear h hK hne c0
  have HPR : Hid (∀ e W2, FSortPost base (.slice a l.length c) (insL (ltOf keyCF) l) w e W2 → e = .returned (.tuple #[]) ∧ Hid (FSortPost base (.slice a l.length c) (insL (ltOf keyCF) l) w (.returned (.tuple #[])) W2)) := fun e W2 h => ⟨h.1, by obtain ⟨rfl, h2⟩ := h; exact ⟨rfl, h2⟩⟩
  generalize hPP : FSortPost base (.slice a l.length c) (insL (ltOf keyCF) l) w = PP at HINS HPR ⊢
  clear hPP
  generalize l.length = n at HINS hl12 ⊢
  clear hl
  have HSTB : Hid (Calls Tryz.prog 108 #[.slice a n c, .int .i64 n, .func (.func 70) #[] #[.pointer (some ⟨K, 0, none⟩)]] w fun e w' => e = .returned (.tuple #[]) ∧ PP (.returned (.tuple #[])) w') := by
    show Calls _ _ _ _ _
    have q1 : ¬ ((20 : Int) ≤ (n : Int)) := by omega
    have q2 : ¬ ((20 : Int) < (n : Int)) := by omega
    go_enter Tryz.func108, Tryz.ntmps108
    go_wp2_with fail
    go_loopw [7, 8] (fun a b wr => a = .int .i64 0 ∧ b = .int .i64 20 ∧ wr = w) (fun _ _ _ => 0)
    case atStart => exact ⟨rfl, rfl, rfl⟩
    case round =>
      obtain ⟨rfl, rfl, rfl⟩ := hrel
      go_wp2_with fail
      refine HINS.out.mono ?_
      rintro e W2 hp
      obtain ⟨rfl, HPW⟩ : e = .returned (.tuple #[]) ∧ Hid (PP (.returned (.tuple #[])) W2) := HPR.out e W2 hp
      go_wp2_with fail
      go_loopw [6] (fun a wr => a = .int .i64 20 ∧ wr = W2) (fun _ _ => 0)
      case atStart => exact ⟨rfl, rfl⟩
      case round =>
        obtain ⟨rfl, rfl⟩ := hrel
        go_wp2_with fail
        go_end0
        exact ⟨rfl, HPW.out⟩
  clear HINS
  go_enter Tryz.func69, Tryz.ntmps69
  go_wp2_with fail
  refine HSTB.out.mono ?_
  rintro e w' ⟨rfl, hp⟩
  have HP := Lib.hid hp
  clear hp
  go_wp2_with fail
  go_end0
  exact HP.out
end Go.Proofs.YtkdadbpajhdelaaGreatDoor

set_option linter.unusedVariables false
set_option linter.unusedSimpArgs false
namespace Go.Proofs.YtkdadbpajhdelaaGreatDoor
open Go.RowKit Go.Sort Go.Lib Go.Shelf

theorem ltF_is (x y : Fwd) : ltOf keyCF x y = decide (x.code < y.code) := by
  unfold ltOf
  rw [keyCF_is]
  unfold codeF
  by_cases h1 : x.code < y.code
  · rw [if_pos h1, decide_eq_true h1]; rfl
  · rw [if_neg h1, decide_eq_false h1]
    by_cases h2 : y.code < x.code
    · rw [if_pos h2]; rfl
    · rw [if_neg h2]; rfl
theorem swo_F : SWO (ltOf keyCF) := by
  constructor
  all_goals (simp only [ltF_is, decide_eq_true_eq, decide_eq_false_iff_not]; intros; omega)
theorem insF_all (l : List Fwd) : (∀ x, x ∈ insL (ltOf keyCF) l ↔ x ∈ l) ∧ ∀ i j, i < j → j < (insL (ltOf keyCF) l).length → ((insL (ltOf keyCF) l).getD i default).code ≤ ((insL (ltOf keyCF) l).getD j default).code := by
  obtain ⟨⟨hs, _, hp⟩, ho⟩ := insertionSort_holds swo_F l.toArray 0 l.length (Nat.zero_le _) (by simp)
  rw [insL_arr] at hs hp ho
  constructor
  · intro x
    have e1 : ((insL (ltOf keyCF) l).toArray.extract 0 l.length).toList = insL (ltOf keyCF) l := by
      rw [show l.length = (insL (ltOf keyCF) l).toArray.size by rw [hs]; simp]
      simp
    have e2 : (l.toArray.extract 0 l.length).toList = l := by simp
    rw [e1, e2] at hp
    exact hp.mem_iff
  · intro i j hij hj
    have hl : (insL (ltOf keyCF) l).length = l.length := insL_len _ _
    have := ho i j (Nat.zero_le _) hij (by omega)
    rw [ltF_is, decide_eq_false_iff_not] at this
    have e : ∀ k, k < (insL (ltOf keyCF) l).length → (insL (ltOf keyCF) l).toArray[k]! = (insL (ltOf keyCF) l).getD k default := fun k hk => by
      simp [List.getD_eq_getElem?_getD, hk]
    rw [e i (by omega), e j hj] at this
    omega
end Go.Proofs.YtkdadbpajhdelaaGreatDoor

set_option linter.unusedVariables false
set_option linter.unusedSimpArgs false
namespace Go.Proofs.YtkdadbpajhdelaaGreatDoor
open Go.RowKit

theorem own_above {base e size g n cap : Nat} : ∀ (L : List Value) (w : World) (xs : List Value) (o m : Nat), w.ownsRow base e size (.slice (some ⟨g, 0, none⟩) n cap) n xs → m ≤ o → ∃ ys, (w.setCells g o L).ownsRow base e size (.slice (some ⟨g, 0, none⟩) n cap) n ys ∧ ys.take m = xs.take m
  | [], w, xs, o, m, h, _ => ⟨xs, h, rfl⟩
  | v :: L, w, xs, o, m, h, hm => by
    obtain ⟨ys, h1, h2⟩ := own_above L (w.setCell ⟨g, o, none⟩ v) (xs.set o v) (o + 1) m (h.stored o v).1 (by omega)
    exact ⟨ys, h1, by rw [h2, List.take_set_of_le hm]⟩
theorem own_cutK {w : World} {base B cap n m k : Nat} {e : TypeId} {xs : List Value} (h : w.ownsRow base e k (.slice (some ⟨B, 0, none⟩) n cap) n xs) (hm : m ≤ n) : w.ownsRow base e k (.slice (some ⟨B, 0, none⟩) m cap) m (xs.take (m * k)) := by
  have h1 := h.1
  have hk : m * k ≤ n * k := Nat.mul_le_mul_right k hm
  rcases h.2 with ⟨h0, _⟩ | ⟨g, cap', cur, h0, hb, hg, hn, hc, hs, ht⟩
  · cases h0
  · injection h0 with e1 _ e3
    injection e1 with e1
    injection e1 with e1
    subst e1 e3
    refine ⟨by rw [List.length_take]; omega, .inr ⟨B, cap, cur, rfl, hb, hg, by omega, hc, hs, ?_⟩⟩
    rw [← ht, List.take_take, Nat.min_eq_left hk]
theorem flat_take {α : Type} (f : α → List Value) (k : Nat) (hk : ∀ x, (f x).length = k) : ∀ (l : List α) (m : Nat), m ≤ l.length → ((l.map f).flatten).take (m * k) = ((l.take m).map f).flatten
  | l, 0, _ => by simp
  | [], m + 1, h => by simp at h
  | x :: l, m + 1, h => by
    rw [List.map_cons, List.flatten_cons, List.take_succ_cons, List.map_cons, List.flatten_cons]
    rw [show (m + 1) * k = (f x).length + m * k by rw [hk, Nat.add_mul]; omega, List.take_append]
    rw [List.take_of_length_le (by omega), Nat.add_sub_cancel_left, flat_take f k hk l m (by simpa using h)]
theorem run_clear_any (w : World) (t e : TypeId) (z : Value) (ht : Tryz.prog.underlying t = some (.slice e)) (hv : ∀ w, (zeroValue e).run Tryz.prog w = .ok z w) (hz : 0 < z.cells.size) (h1 : ∀ i : Nat, Value.oneCell' (z.cells[i]!) = true) (b o n c : Nat) (hn : 0 < n)
    (hc : ∀ j, j < n * z.cells.size → (w.cell? ⟨b, o + j, none⟩).isSome = true) (hf : ∀ j, j < n * z.cells.size → w.frozen? ⟨b, o + j, none⟩ = false) :
    ∃ L, ∀ ty : TypeId, (Builtin.clear_ #[t] ty #[.slice (some ⟨b, o, none⟩) n c]).run Tryz.prog w = .ok (.tuple #[]) (w.setCells b o L) := by
  refine ⟨(Builtin.zeroCells z.cells n).toList, fun ty => ?_⟩
  have hl : (Builtin.zeroCells z.cells n).size = n * z.cells.size := by simp [Builtin.zeroCells]
  have hst := run_storeCells_cells (P := Tryz.prog) b o (Builtin.zeroCells z.cells n).toList 0 w (by rw [Array.length_toList, hl]; simpa using hc) (by rw [Array.length_toList, hl]; simpa using hf) (by
    intro v hv'
    obtain ⟨i, hi, rfl⟩ := List.getElem_of_mem hv'
    simp only [Builtin.zeroCells, Array.getElem_toList, Array.getElem_map]
    exact h1 _)
  simp only [Nat.add_zero] at hst
  obtain ⟨m, rfl⟩ : ∃ m, n = m + 1 := ⟨n - 1, by omega⟩
  simp [Builtin.clear_, run_underlying ht, hv, hst]
theorem wpList_doneT {P : Program} {ops : Array Oper} {rest : List Oper} {o : Oper} {a : Act} {w w' : World} {Q : Exit → Act → World → Prop} (hg : o.guard = none) (h : (execOp a.eval o).run P w = .ok .skip w') (hK : wpList P ops Q rest (a.put o.dst undef) w') : wpList P ops Q (o :: rest) a w :=
  wpList_plain hg fun K hK' => wp_skip h (hK' _ _ hK)
end Go.Proofs.YtkdadbpajhdelaaGreatDoor

set_option linter.unusedVariables false
set_option linter.unusedSimpArgs false
namespace Go.Proofs.YtkdadbpajhdelaaGreatDoor
open Go.RowKit Go.Sort Go.Lib Go.Shelf

theorem Tryz.fwdSz : (Tryz.prog.info? 46).map (·.size) = some 4 := by kernel_rfl
theorem own_put4 {w : World} {base g n cap : Nat} {e : TypeId} {R : List Fwd} (h : w.ownsRow base e 4 (.slice (some ⟨g, 0, none⟩) n cap) n ((R.map Fwd.cells).flatten)) (i : Nat) (hi : i < R.length) (x : Fwd) :
    (w.setCells g (i * 4) x.cells).ownsRow base e 4 (.slice (some ⟨g, 0, none⟩) n cap) n (((R.set i x).map Fwd.cells).flatten) := by
  obtain ⟨a, b, c, d⟩ := x
  have h1 := own_put1 Fwd.cells (fun _ => rfl) h i 0 default ⟨a, (R.getD i default).wh, (R.getD i default).to_, (R.getD i default).hr⟩ (.string ⟨(lineK a).toArray⟩) hi (by omega) rfl
  rw [Nat.add_zero] at h1
  have h2 := own_put1 Fwd.cells (fun _ => rfl) h1 i 1 default ⟨a, b, (R.getD i default).to_, (R.getD i default).hr⟩ (.int .i64 (b.val + 1 : Nat)) (by simpa using hi) (by omega) (by simp [hi, Fwd.cells])
  rw [List.set_set] at h2
  have h3 := own_put1 Fwd.cells (fun _ => rfl) h2 i 2 default ⟨a, b, c, (R.getD i default).hr⟩ (.string ⟨(lineK c).toArray⟩) (by simpa using hi) (by omega) (by simp [hi, Fwd.cells])
  rw [List.set_set] at h3
  have h4 := own_put1 Fwd.cells (fun _ => rfl) h3 i 3 default ⟨a, b, c, d⟩ (.string ⟨(hourK d).toArray⟩) (by simpa using hi) (by omega) (by simp [hi, Fwd.cells])
  rw [List.set_set] at h4
  exact h4
/-- The first k stand in strict order. -/
def Strict (R : List Fwd) (k : Nat) : Prop := ∀ i j, i < j → j < k → (R.getD i default).code < (R.getD j default).code
theorem Strict.next {R : List Fwd} {k : Nat} (h : Strict R k) (hk : 0 < k) (hl : (R.getD (k - 1) default).code < (R.getD k default).code) : Strict R (k + 1) := fun i j hij hj => by
  by_cases e : j = k
  · subst e
    by_cases e2 : i = j - 1
    · subst e2; exact hl
    · exact Nat.lt_trans (h i (j - 1) (by omega) (by omega)) hl
  · exact h i j hij (by omega)
theorem getD_setF (R : List Fwd) (i j : Nat) (x : Fwd) (hi : i < R.length) : (R.set i x).getD j default = if j = i then x else R.getD j default := by
  rw [List.getD_eq_getElem?_getD, List.getD_eq_getElem?_getD, List.getElem?_set]
  by_cases e : i = j
  · subst e; simp [hi]
  · simp [e, Ne.symm e]
def CptPost (base : Nat) (v : Value) (L : List Fwd) (w : World) (e : Ending) (w' : World) : Prop :=
  ∃ v' ys, e = .returned v' ∧ FwRow w' base v' ys ∧ (∀ y ∈ ys, y ∈ L) ∧ Strict ys ys.length ∧ ys.length ≤ L.length ∧ w.grownBy w' v.ownBlock
theorem mem_getF {L : List Fwd} {i : Nat} (h : i < L.length) : L.getD i default ∈ L := by
  rw [List.getD_eq_getElem?_getD, List.getElem?_eq_getElem h]
  exact List.getElem_mem h
set_option maxRecDepth 100000 in
set_option maxHeartbeats 8000000 in
theorem compactF_any (w : World) (base : Nat) (v : Value) (L : List Fwd) (h : FwRow w base v L) (hl : L.length ≤ 12) (hs : ∀ i j, i < j → j < L.length → (L.getD i default).code ≤ (L.getD j default).code) (K : Nat) (hK : K < w.heap.size) (hne : v.ownBlock ≠ some K) (c0 : w.cell? ⟨K, 0, none⟩ = some (.func (.func 68) #[] #[])) :
    Calls Tryz.prog 72 #[v, .func (.func 73) #[] #[.pointer (some ⟨K, 0, none⟩)]] w (CptPost base v L w) := by
  unfold FwRow at h
  obtain ⟨a, cap, rfl⟩ := own_shape h
  by_cases h2 : L.length < 2
  · have HE : Hid (CptPost base (.slice a L.length cap) L w (.returned (.slice a L.length cap)) w) := ⟨_, L, rfl, h, fun y hy => hy, fun i j hij hj => absurd hj (by omega), Nat.le_refl _, gb_of_below (Below.refl _ _)⟩
    generalize hPP : CptPost base (.slice a L.length cap) L w = PP at HE ⊢
    generalize L.length = n at HE h2 ⊢
    clear h hs hl hne c0 hK hPP
    have h01 : n = 0 ∨ n = 1 := by omega
    clear h2
    rcases h01 with rfl | rfl
    · go_enter Tryz.func72, Tryz.ntmps72
      go_wp2_with fail
      exact HE.out
    · go_enter Tryz.func72, Tryz.ntmps72
      go_wp2_with fail
      exact HE.out
  obtain ⟨g, rfl, hg0, hg1⟩ := own_pos h (by omega)
  have hcp : L.length ≤ cap ∧ cap ≤ maxLen := by
    rcases h.2 with ⟨e, _⟩ | ⟨g', c', cu, e, _, _, h1, h3, _⟩
    · cases e
    · injection e with _ _ e3
      subst e3
      exact ⟨h1, h3⟩
  have hcm : cap ≤ 9223372036854775807 := by have := hcp.2; unfold maxLen at this; omega
  have hcp1 := hcp.1
  have HO := Lib.hid h
  have HS := Lib.hid hs
  have hKg : K ≠ g := fun e => hne (by rw [e]; rfl)
  have HKC : Hid (∀ W, w.grownBy W (some g) → K < W.heap.size ∧ W.cell? ⟨K, 0, none⟩ = some (.func (.func 68) #[] #[])) := fun W hW => ⟨Nat.lt_of_lt_of_le hK hW.size, by rw [World.cell?_of_block (a := ⟨K, 0, none⟩) (hW.block K hK (fun e => hKg (by injection e)))]; exact c0⟩
  obtain ⟨n, hn⟩ : ∃ n, n = L.length := ⟨_, rfl⟩
  have HN := Lib.hid hn
  have hn2 : 2 ≤ n := by omega
  have hn12 : n ≤ 12 := by omega
  have hcn : n ≤ cap := by omega
  have HPP : Hid (∀ e W, CptPost base (.slice (some ⟨g, 0, none⟩) L.length cap) L w e W → CptPost base (.slice (some ⟨g, 0, none⟩) n cap) L w e W) := fun e W h => by rw [hn]; exact h
  rw [← hn] at HO ⊢
  clear h hs hl h2 hne c0 hK hcp hcp1 hn
  go_enter Tryz.func72, Tryz.ntmps72
  have hn2i : ¬ ((n : Int) < 2) := by omega
  go_wp2_with fail
  clear hn2i
  go_loopw [5] (fun it wr => ∃ k : Nat, 1 ≤ k ∧ k ≤ n ∧ it = .int .i64 k ∧ Hid (Strict L k) ∧ Hid (wr.ownsRow base 46 4 (.slice (some ⟨g, 0, none⟩) n cap) n ((L.map Fwd.cells).flatten)) ∧ Hid (w.grownBy wr (some g))) (fun it _ => n - (intOf it).toNat)
  case atStart => exact ⟨1, Nat.le_refl _, by omega, rfl, (fun i j hij hj => absurd hj (by omega)), HO, gb_of_below (Below.refl _ _)⟩
  case round =>
    clear HO
    obtain ⟨k, hk1, hkn, rfl, HST, HO, HG⟩ := hrel
    by_cases hlk : k < n
    case neg =>
      obtain rfl : k = n := by omega
      have HE : Hid (CptPost base (.slice (some ⟨g, 0, none⟩) k cap) L w (.returned (.slice (some ⟨g, 0, none⟩) k cap)) wr) := ⟨_, L, rfl, by unfold FwRow; rw [← HN.out]; exact HO.out, fun y hy => hy, by rw [← HN.out]; exact HST.out, Nat.le_refl _, HG.out⟩
      have hkk : ¬ ((k : Int) < (k : Int)) := by omega
      clear HO HG HST
      as_aux_lemma =>
        go_wp2_with fail
        go_ret
        exact HE.out
    obtain ⟨k1, rfl⟩ : ∃ k1, k = k1 + 1 := ⟨k - 1, by omega⟩
    have hlki : ((k1 + 1 : Nat) : Int) < (n : Int) := by omega
    have hlk1 : (k1 : Int) < (n : Int) := by omega
    have hwk : IntKind.i64.wrap (k1 : Int) = (k1 : Int) := IntWalk.i64_in _ (by omega)
    have hk10 : ¬ ((k1 : Int) < 0) := by omega
    have hk20 : ¬ ((k1 : Int) + 1 < 0) := by omega
    have hk21 : (k1 : Int) + 1 < (n : Int) := by omega
    have hOd := own_keep HO.out (ext_drew (Below.refl wr.heap.size wr))
    have hKd := HKC.out wr.drew (gb_below HG.out (ext_drew (Below.refl _ _)))
    have x0 := own_field Fwd.cells (fun _ => rfl) hOd (k1 + 1) 0 default (by have := HN.out; omega) (by omega) rfl
    have y0 := own_field Fwd.cells (fun _ => rfl) hOd k1 0 default (by have := HN.out; omega) (by omega) rfl
    have x1 := own_field Fwd.cells (fun _ => rfl) hOd (k1 + 1) 1 default (by have := HN.out; omega) (by omega) rfl
    have y1 := own_field Fwd.cells (fun _ => rfl) hOd k1 1 default (by have := HN.out; omega) (by omega) rfl
    have x2 := own_field Fwd.cells (fun _ => rfl) hOd (k1 + 1) 2 default (by have := HN.out; omega) (by omega) rfl
    have y2 := own_field Fwd.cells (fun _ => rfl) hOd k1 2 default (by have := HN.out; omega) (by omega) rfl
    have x3 := own_field Fwd.cells (fun _ => rfl) hOd (k1 + 1) 3 default (by have := HN.out; omega) (by omega) rfl
    have y3 := own_field Fwd.cells (fun _ => rfl) hOd k1 3 default (by have := HN.out; omega) (by omega) rfl
    have hgd : g < wr.drew.heap.size := Nat.lt_of_lt_of_le hg1 (gb_below HG.out (ext_drew (Below.refl _ _))).size
    have HLE : Hid ((L.getD k1 default).code ≤ (L.getD (k1 + 1) default).code) := HS.out k1 (k1 + 1) (by omega) (by have := HN.out; omega)
    have HEQ := Lib.hid (eq3_any (L.getD (k1 + 1) default) (L.getD k1 default) K wr.drew hKd.1 hKd.2)
    have HX0 : Hid (L.getD (k1 + 1) default = L.getD (k1 + 1) default) := rfl
    obtain ⟨fx, hfx⟩ : ∃ f, f = L.getD (k1 + 1) default := ⟨_, rfl⟩
    obtain ⟨fy, hfy⟩ : ∃ f, f = L.getD k1 default := ⟨_, rfl⟩
    rw [← hfx] at x0 x1 x2 x3 HLE HEQ
    rw [← hfy] at y0 y1 y2 y3 HLE HEQ
    have HFX := Lib.hid hfx
    have HFY := Lib.hid hfy
    have HFC : Hid (fx.cells = [.string ⟨(lineK fx.line).toArray⟩, .int .i64 (fx.wh.val + 1 : Nat), .string ⟨(lineK fx.to_).toArray⟩, .string ⟨(hourK fx.hr).toArray⟩]) := rfl
    have HFD : Hid (fy.cells = [.string ⟨(lineK fy.line).toArray⟩, .int .i64 (fy.wh.val + 1 : Nat), .string ⟨(lineK fy.to_).toArray⟩, .string ⟨(hourK fy.hr).toArray⟩]) := rfl
    have HEQ2 : Hid (Calls Tryz.prog 73 #[.agg #[.string ⟨(lineK fx.line).toArray⟩, .int .i64 (fx.wh.val + 1 : Nat), .string ⟨(lineK fx.to_).toArray⟩, .string ⟨(hourK fx.hr).toArray⟩], .agg #[.string ⟨(lineK fy.line).toArray⟩, .int .i64 (fy.wh.val + 1 : Nat), .string ⟨(lineK fy.to_).toArray⟩, .string ⟨(hourK fy.hr).toArray⟩], .pointer (some ⟨K, 0, none⟩)] wr.drew fun e w' => e = .returned (.bool (decide (fx.code = fy.code))) ∧ Below wr.drew.heap.size wr.drew w') := HEQ.out
    clear hfx hfy HX0 HEQ HFC HFD
    generalize (⟨(lineK fx.line).toArray⟩ : ByteArray) = xl at x0 HEQ2
    generalize ((fx.wh.val + 1 : Nat) : Int) = xz at x1 HEQ2
    generalize (⟨(lineK fx.to_).toArray⟩ : ByteArray) = xt at x2 HEQ2
    generalize (⟨(hourK fx.hr).toArray⟩ : ByteArray) = xh at x3 HEQ2
    generalize (⟨(lineK fy.line).toArray⟩ : ByteArray) = yl at y0 HEQ2
    generalize ((fy.wh.val + 1 : Nat) : Int) = yz at y1 HEQ2
    generalize (⟨(lineK fy.to_).toArray⟩ : ByteArray) = yt at y2 HEQ2
    generalize (⟨(hourK fy.hr).toArray⟩ : ByteArray) = yh at y3 HEQ2
    rw [Nat.add_zero] at x0 y0
    have HCE : Hid (∀ W9, Below wr.drew.heap.size wr.drew W9 → (W9.cell? ⟨g, (k1 + 1) * 4, none⟩ = some (.string xl) ∧ W9.cell? ⟨g, (k1 + 1) * 4 + 1, none⟩ = some (.int .i64 xz) ∧ W9.cell? ⟨g, (k1 + 1) * 4 + 2, none⟩ = some (.string xt) ∧ W9.cell? ⟨g, (k1 + 1) * 4 + 3, none⟩ = some (.string xh)) ∧ (W9.cell? ⟨g, k1 * 4, none⟩ = some (.string yl) ∧ W9.cell? ⟨g, k1 * 4 + 1, none⟩ = some (.int .i64 yz) ∧ W9.cell? ⟨g, k1 * 4 + 2, none⟩ = some (.string yt) ∧ W9.cell? ⟨g, k1 * 4 + 3, none⟩ = some (.string yh))) := fun W9 hW => ⟨⟨(hW.cell (p := ⟨g, (k1 + 1) * 4, none⟩) hgd).trans x0, (hW.cell (p := ⟨g, (k1 + 1) * 4 + 1, none⟩) hgd).trans x1, (hW.cell (p := ⟨g, (k1 + 1) * 4 + 2, none⟩) hgd).trans x2, (hW.cell (p := ⟨g, (k1 + 1) * 4 + 3, none⟩) hgd).trans x3⟩, ⟨(hW.cell (p := ⟨g, k1 * 4, none⟩) hgd).trans y0, (hW.cell (p := ⟨g, k1 * 4 + 1, none⟩) hgd).trans y1, (hW.cell (p := ⟨g, k1 * 4 + 2, none⟩) hgd).trans y2, (hW.cell (p := ⟨g, k1 * 4 + 3, none⟩) hgd).trans y3⟩⟩
    have HOd := Lib.hid hOd
    have HGd := Lib.hid (gb_below HG.out (ext_drew (Below.refl wr.heap.size wr)))
    clear x0 x1 x2 x3 y0 y1 y2 y3 hOd hKd HO HG
    as_aux_lemma =>
      go_upto_region 6 with (fail)
      refine region_seqI (S := fun W9 => Below wr.drew.heap.size wr.drew W9) [(true, 0), (true, 1), (true, 2), (true, 3), (true, 4), (true, 5), (true, 6), (true, 7), (true, 8), (true, 9), (false, 10)] (by kernel_rfl) (by kernel_rfl) rfl (by kernel_rfl) (Below.refl _ _) ?_
      generalize wr.drew = wd at HCE HOd HGd HEQ2 hgd ⊢
      simp only [seqOps, List.getD_cons_zero, List.getD_cons_succ]
      refine seqI_take (v := .func (.func 73) #[] #[.pointer (some ⟨K, 0, none⟩)]) rfl (fun W9 hW => by clear hW; go_simp) (fun _ _ _ h => h) ?_
      simp only [Act.put, List.setIfInBounds_toArray, List.set_cons_zero, List.set_cons_succ]
      refine seqI_take (v := .slice (some ⟨g, 0, none⟩) n cap) rfl (fun W9 hW => by clear hW; go_simp) (fun _ _ _ h => h) ?_
      simp only [Act.put, List.setIfInBounds_toArray, List.set_cons_zero, List.set_cons_succ]
      refine seqI_take (v := .int .i64 ((k1 : Int) + 1)) rfl (fun W9 hW => by clear hW; go_simp) (fun _ _ _ h => h) ?_
      simp only [Act.put, List.setIfInBounds_toArray, List.set_cons_zero, List.set_cons_succ]
      refine seqI_take (v := .pointer (some ⟨g, (k1 + 1) * 4, none⟩)) rfl (fun W9 hW => by clear hW; go_simp) (fun _ _ _ h => h) ?_
      simp only [Act.put, List.setIfInBounds_toArray, List.set_cons_zero, List.set_cons_succ]
      refine seqI_take (v := .agg #[.string xl, .int .i64 xz, .string xt, .string xh]) rfl (fun W9 hW => by obtain ⟨⟨m0, m1, m2, m3⟩, ⟨q0, q1, q2, q3⟩⟩ := HCE.out W9 hW; go_simp) (fun _ _ _ h => h) ?_
      simp only [Act.put, List.setIfInBounds_toArray, List.set_cons_zero, List.set_cons_succ]
      refine seqI_take (v := .slice (some ⟨g, 0, none⟩) n cap) rfl (fun W9 hW => by clear hW; go_simp) (fun _ _ _ h => h) ?_
      simp only [Act.put, List.setIfInBounds_toArray, List.set_cons_zero, List.set_cons_succ]
      refine seqI_take (v := .int .i64 ((k1 : Int) + 1)) rfl (fun W9 hW => by clear hW; go_simp) (fun _ _ _ h => h) ?_
      simp only [Act.put, List.setIfInBounds_toArray, List.set_cons_zero, List.set_cons_succ]
      refine seqI_take (v := .int .i64 k1) rfl (fun W9 hW => by clear hW; go_simp) (fun _ _ _ h => h) ?_
      simp only [Act.put, List.setIfInBounds_toArray, List.set_cons_zero, List.set_cons_succ]
      refine seqI_take (v := .pointer (some ⟨g, k1 * 4, none⟩)) rfl (fun W9 hW => by clear hW; go_simp) (fun _ _ _ h => h) ?_
      simp only [Act.put, List.setIfInBounds_toArray, List.set_cons_zero, List.set_cons_succ]
      refine seqI_take (v := .agg #[.string yl, .int .i64 yz, .string yt, .string yh]) rfl (fun W9 hW => by obtain ⟨⟨m0, m1, m2, m3⟩, ⟨q0, q1, q2, q3⟩⟩ := HCE.out W9 hW; go_simp) (fun _ _ _ h => h) ?_
      simp only [Act.put, List.setIfInBounds_toArray, List.set_cons_zero, List.set_cons_succ]
      refine seqI_call _ _ rfl (by go_simp) HEQ2.out ?_
      rintro e w2 ⟨rfl, hb⟩
      have HO2 := Lib.hid (own_keep HOd.out hb)
      have HG2 := Lib.hid (gb_below HGd.out hb)
      refine ⟨_, rfl, hb, ?_⟩
      simp only [Act.put, List.setIfInBounds_toArray, List.set_cons_zero, List.set_cons_succ]
      refine seqI_nil ?_
      clear hb HCE HOd HGd HEQ2 hgd
      by_cases hcode : fx.code = fy.code
      case neg =>
        rw [decide_eq_false hcode]
        as_aux_lemma =>
          go_wp2_with fail
          go_roundw
          case rel => exact ⟨k1 + 1 + 1, by omega, by omega, by go_num, HST.out.next (by omega) (by rw [Nat.add_sub_cancel, ← HFX.out, ← HFY.out]; have := HLE.out; omega), HO2, HG2⟩
          case measure => simp [intOf]; omega
      rw [decide_eq_true hcode]
      have HCD := Lib.hid hcode
      clear hcode
      have hcapk : ¬ cap = k1 + 1 := by omega
      have hkni : (k1 : Int) + 1 ≤ (n : Int) := by omega
      have hkci : (k1 : Int) + 1 ≤ (cap : Int) := by omega
      have hCL : (L.getD k1 default).code = (L.getD (k1 + 1) default).code := by rw [← HFX.out, ← HFY.out]; exact HCD.out.symm
      have HCL := Lib.hid hCL
      clear hCL HFX HFY HCD HLE
      have hlkn : k1 + 1 < n := hlk
      as_aux_lemma =>
        go_wp2_with fail
        go_loopw [5, 7] (fun si sk wr => ∃ (i k2 : Nat) (R : List Fwd), si = .int .i64 i ∧ sk = .int .i64 k2 ∧ 1 ≤ k2 ∧ k2 ≤ n - (k1 + 1) ∧ 1 ≤ i ∧ i ≤ k1 + k2 ∧ Hid (R.length = n ∧ (∀ z, k1 + k2 ≤ z → z < n → R.getD z default = L.getD z default) ∧ Strict R i ∧ (∀ z, z < i → R.getD z default ∈ L) ∧ (R.getD (i - 1) default).code = (L.getD (k1 + k2) default).code) ∧ Hid (wr.ownsRow base 46 4 (.slice (some ⟨g, 0, none⟩) n cap) n ((R.map Fwd.cells).flatten)) ∧ Hid (w.grownBy wr (some g))) (fun _ sk _ => n - (intOf sk).toNat)
        case atStart => exact ⟨k1 + 1, 1, L, rfl, rfl, Nat.le_refl _, by omega, by omega, Nat.le_refl _, ⟨HN.out.symm, fun _ _ _ => rfl, HST.out, fun z hz => mem_getF (by have := HN.out; omega), by rw [Nat.add_sub_cancel]; exact HCL.out⟩, HO2, HG2⟩
        case round =>
          clear HO2 HG2
          obtain ⟨i, k2, R, rfl, rfl, hk21, hk2n, hi1, hik, HR, HO, HG⟩ := hrel
          by_cases hlk2 : k2 < n - (k1 + 1)
          case neg =>
            have hk2e : k2 = n - (k1 + 1) := by omega
            have hin : i < n := by omega
            have hRl := HR.out.1
            have hci : ¬ cap = i := by omega
            have hil : (i : Int) ≤ (n : Int) := by omega
            have hic : (i : Int) ≤ (cap : Int) := by omega
            have hcell : ∀ q, q < (n - i) * 4 → (wr.cell? ⟨g, i * 4 + q, none⟩).isSome = true := fun q hq => by
              rw [HO.out.cellAt (i * 4 + q) (by omega)]
              have hf := flat_length Fwd.cells 4 (fun _ => rfl) R
              rw [List.getElem?_eq_getElem (by rw [hf, hRl]; omega)]
              rfl
            obtain ⟨LZ, hcl⟩ := run_clear_any wr 31 46 (.agg #[.string ⟨#[]⟩, .int .i64 0, .string ⟨#[]⟩, .string ⟨#[]⟩]) Tryz.underlying31 Tryz.zeroValue46 (by decide) (fun i => by
              match i with
              | 0 => rfl
              | 1 => rfl
              | 2 => rfl
              | 3 => rfl
              | i + 4 => rfl) g (i * 4) (n - i) (cap - i) (by omega) hcell (fun q _ => HO.out.frozenAt _)
            have HE : Hid (CptPost base (.slice (some ⟨g, 0, none⟩) n cap) L w (.returned (.slice (some ⟨g, 0, none⟩) i cap)) (wr.setCells g (i * 4) LZ)) := by
              obtain ⟨ys, hy1, hy2⟩ := own_above LZ wr _ (i * 4) (i * 4) HO.out (Nat.le_refl _)
              have hy3 := own_cutK hy1 (Nat.le_of_lt hin)
              rw [hy2, flat_take Fwd.cells 4 (fun _ => rfl) R i (by omega)] at hy3
              have hlen : (R.take i).length = i := by rw [List.length_take]; omega
              have hget : ∀ z, z < i → (R.take i).getD z default = R.getD z default := fun z hz => by
                rw [List.getD_eq_getElem?_getD, List.getElem?_take_of_lt hz, ← List.getD_eq_getElem?_getD]
              refine ⟨_, R.take i, rfl, ?_, ?_, ?_, ?_, gb_trans HG.out (setCells_gb g LZ (i * 4))⟩
              · unfold FwRow
                rw [hlen]
                exact hy3
              · intro y hy
                obtain ⟨z, hz, rfl⟩ := List.getElem_of_mem hy
                have hzi : z < i := by omega
                have := HR.out.2.2.2.1 z hzi
                rw [← hget z hzi, List.getD_eq_getElem?_getD, List.getElem?_eq_getElem hz] at this
                exact this
              · rw [hlen]
                intro a b hab hb
                rw [hget a (by omega), hget b hb]
                exact HR.out.2.2.1 a b hab hb
              · rw [hlen]
                have := HN.out
                omega
            have hk2n' : ¬ ((k2 : Int) < (n : Int) - ((k1 : Int) + 1)) := by omega
            clear HO HG HR hcell hRl
            as_aux_lemma =>
              go_wp2_with fail
              go_ret
              exact HE.out
          obtain ⟨k3, rfl⟩ : ∃ k3, k2 = k3 + 1 := ⟨k2 - 1, by omega⟩
          obtain ⟨fx, hfx⟩ : ∃ f, f = R.getD (k1 + 1 + (k3 + 1)) default := ⟨_, rfl⟩
          obtain ⟨fz, hfz⟩ : ∃ f, f = R.getD (k1 + 1 + k3) default := ⟨_, rfl⟩
          have hOd := own_keep HO.out (ext_drew (Below.refl wr.heap.size wr))
          have hKd := HKC.out wr.drew (gb_below HG.out (ext_drew (Below.refl _ _)))
          have x0 := own_field Fwd.cells (fun _ => rfl) hOd (k1 + 1 + (k3 + 1)) 0 default (by have := HR.out.1; omega) (by omega) rfl
          have y0 := own_field Fwd.cells (fun _ => rfl) hOd (k1 + 1 + k3) 0 default (by have := HR.out.1; omega) (by omega) rfl
          have x1 := own_field Fwd.cells (fun _ => rfl) hOd (k1 + 1 + (k3 + 1)) 1 default (by have := HR.out.1; omega) (by omega) rfl
          have y1 := own_field Fwd.cells (fun _ => rfl) hOd (k1 + 1 + k3) 1 default (by have := HR.out.1; omega) (by omega) rfl
          have x2 := own_field Fwd.cells (fun _ => rfl) hOd (k1 + 1 + (k3 + 1)) 2 default (by have := HR.out.1; omega) (by omega) rfl
          have y2 := own_field Fwd.cells (fun _ => rfl) hOd (k1 + 1 + k3) 2 default (by have := HR.out.1; omega) (by omega) rfl
          have x3 := own_field Fwd.cells (fun _ => rfl) hOd (k1 + 1 + (k3 + 1)) 3 default (by have := HR.out.1; omega) (by omega) rfl
          have y3 := own_field Fwd.cells (fun _ => rfl) hOd (k1 + 1 + k3) 3 default (by have := HR.out.1; omega) (by omega) rfl
          rw [← hfx] at x0 x1 x2 x3
          rw [← hfz] at y0 y1 y2 y3
          rw [show (k1 + 1 + (k3 + 1)) * 4 = (k1 + 1) * 4 + (k3 + 1) * 4 by omega] at x0 x1 x2 x3
          rw [show (k1 + 1 + k3) * 4 = (k1 + 1) * 4 + k3 * 4 by omega] at y0 y1 y2 y3
          rw [Nat.add_zero] at x0 y0
          have hgd : g < wr.drew.heap.size := Nat.lt_of_lt_of_le hg1 (gb_below HG.out (ext_drew (Below.refl _ _))).size
          have HEQ2 : Hid (Calls Tryz.prog 73 #[.agg #[.string ⟨(lineK fx.line).toArray⟩, .int .i64 (fx.wh.val + 1 : Nat), .string ⟨(lineK fx.to_).toArray⟩, .string ⟨(hourK fx.hr).toArray⟩], .agg #[.string ⟨(lineK fz.line).toArray⟩, .int .i64 (fz.wh.val + 1 : Nat), .string ⟨(lineK fz.to_).toArray⟩, .string ⟨(hourK fz.hr).toArray⟩], .pointer (some ⟨K, 0, none⟩)] wr.drew fun e w' => e = .returned (.bool (decide (fx.code = fz.code))) ∧ Below wr.drew.heap.size wr.drew w') := eq3_any fx fz K wr.drew hKd.1 hKd.2
          have HFX := Lib.hid hfx
          have HFZ := Lib.hid hfz
          have HSV : Hid (∀ (W : World), W.ownsRow base 46 4 (.slice (some ⟨g, 0, none⟩) n cap) n ((R.map Fwd.cells).flatten) → (W.setCells g (i * 4) [.string ⟨(lineK fx.line).toArray⟩, .int .i64 (fx.wh.val + 1 : Nat), .string ⟨(lineK fx.to_).toArray⟩, .string ⟨(hourK fx.hr).toArray⟩]).ownsRow base 46 4 (.slice (some ⟨g, 0, none⟩) n cap) n (((R.set i fx).map Fwd.cells).flatten)) := fun W h => own_put4 h i (by have := HR.out.1; omega) fx
          clear hfx hfz
          generalize (⟨(lineK fx.line).toArray⟩ : ByteArray) = xl at x0 HEQ2 HSV
          generalize ((fx.wh.val + 1 : Nat) : Int) = xz at x1 HEQ2 HSV
          generalize (⟨(lineK fx.to_).toArray⟩ : ByteArray) = xt at x2 HEQ2 HSV
          generalize (⟨(hourK fx.hr).toArray⟩ : ByteArray) = xh at x3 HEQ2 HSV
          generalize (⟨(lineK fz.line).toArray⟩ : ByteArray) = yl at y0 HEQ2
          generalize ((fz.wh.val + 1 : Nat) : Int) = yz at y1 HEQ2
          generalize (⟨(lineK fz.to_).toArray⟩ : ByteArray) = yt at y2 HEQ2
          generalize (⟨(hourK fz.hr).toArray⟩ : ByteArray) = yh at y3 HEQ2
          have HCE : Hid (∀ W9, Below wr.drew.heap.size wr.drew W9 → (W9.cell? ⟨g, (k1 + 1) * 4 + (k3 + 1) * 4, none⟩ = some (.string xl) ∧ W9.cell? ⟨g, (k1 + 1) * 4 + (k3 + 1) * 4 + 1, none⟩ = some (.int .i64 xz) ∧ W9.cell? ⟨g, (k1 + 1) * 4 + (k3 + 1) * 4 + 2, none⟩ = some (.string xt) ∧ W9.cell? ⟨g, (k1 + 1) * 4 + (k3 + 1) * 4 + 3, none⟩ = some (.string xh)) ∧ (W9.cell? ⟨g, (k1 + 1) * 4 + k3 * 4, none⟩ = some (.string yl) ∧ W9.cell? ⟨g, (k1 + 1) * 4 + k3 * 4 + 1, none⟩ = some (.int .i64 yz) ∧ W9.cell? ⟨g, (k1 + 1) * 4 + k3 * 4 + 2, none⟩ = some (.string yt) ∧ W9.cell? ⟨g, (k1 + 1) * 4 + k3 * 4 + 3, none⟩ = some (.string yh))) := fun W9 hW => ⟨⟨(hW.cell (p := ⟨g, (k1 + 1) * 4 + (k3 + 1) * 4, none⟩) hgd).trans x0, (hW.cell (p := ⟨g, (k1 + 1) * 4 + (k3 + 1) * 4 + 1, none⟩) hgd).trans x1, (hW.cell (p := ⟨g, (k1 + 1) * 4 + (k3 + 1) * 4 + 2, none⟩) hgd).trans x2, (hW.cell (p := ⟨g, (k1 + 1) * 4 + (k3 + 1) * 4 + 3, none⟩) hgd).trans x3⟩, ⟨(hW.cell (p := ⟨g, (k1 + 1) * 4 + k3 * 4, none⟩) hgd).trans y0, (hW.cell (p := ⟨g, (k1 + 1) * 4 + k3 * 4 + 1, none⟩) hgd).trans y1, (hW.cell (p := ⟨g, (k1 + 1) * 4 + k3 * 4 + 2, none⟩) hgd).trans y2, (hW.cell (p := ⟨g, (k1 + 1) * 4 + k3 * 4 + 3, none⟩) hgd).trans y3⟩⟩
          have HOd := Lib.hid hOd
          have HGd := Lib.hid (gb_below HG.out (ext_drew (Below.refl wr.heap.size wr)))
          clear x0 x1 x2 x3 y0 y1 y2 y3 hOd hKd HO HG
          have hs2 : ((n - (k1 + 1) : Nat) : Int) = (n : Int) - ((k1 : Int) + 1) := by omega
          have hli1 : (k3 : Int) + 1 < (n : Int) - ((k1 : Int) + 1) := by omega
          have hli2 : (k3 : Int) < (n : Int) - ((k1 : Int) + 1) := by omega
          have hli3 : ¬ ((k3 : Int) + 1 < 0) := by omega
          have hli4 : ¬ ((k3 : Int) < 0) := by omega
          have hwk3 : IntKind.i64.wrap (k3 : Int) = (k3 : Int) := IntWalk.i64_in _ (by omega)
          have hlt3 : k3 + 1 < n - (k1 + 1) := hlk2
          have hlt4 : k3 < n - (k1 + 1) := by omega
          as_aux_lemma =>
            go_upto_region 11 with (fail)
            refine region_seqI (S := fun W9 => Below wr.drew.heap.size wr.drew W9) [(true, 0), (true, 1), (true, 2), (true, 3), (true, 4), (true, 5), (true, 6), (true, 7), (true, 8), (true, 9), (false, 10), (true, 11)] (by kernel_rfl) (by kernel_rfl) rfl (by kernel_rfl) (Below.refl _ _) ?_
            generalize wr.drew = wd at HCE HOd HGd HEQ2 hgd ⊢
            simp only [seqOps, List.getD_cons_zero, List.getD_cons_succ]
            refine seqI_take (v := .func (.func 73) #[] #[.pointer (some ⟨K, 0, none⟩)]) rfl (fun W9 hW => by clear hW; go_simp) (fun _ _ _ h => h) ?_
            simp only [Act.put, List.setIfInBounds_toArray, List.set_cons_zero, List.set_cons_succ]
            refine seqI_take (v := .slice (some ⟨g, (k1 + 1) * 4, none⟩) (n - (k1 + 1)) (cap - (k1 + 1))) rfl (fun W9 hW => by clear hW; go_simp) (fun _ _ _ h => h) ?_
            simp only [Act.put, List.setIfInBounds_toArray, List.set_cons_zero, List.set_cons_succ]
            refine seqI_take (v := .int .i64 ((k3 : Int) + 1)) rfl (fun W9 hW => by clear hW; go_simp) (fun _ _ _ h => h) ?_
            simp only [Act.put, List.setIfInBounds_toArray, List.set_cons_zero, List.set_cons_succ]
            refine seqI_take (v := .pointer (some ⟨g, (k1 + 1) * 4 + (k3 + 1) * 4, none⟩)) rfl (fun W9 hW => by clear hW; go_simp) (fun _ _ _ h => h) ?_
            simp only [Act.put, List.setIfInBounds_toArray, List.set_cons_zero, List.set_cons_succ]
            refine seqI_take (v := .agg #[.string xl, .int .i64 xz, .string xt, .string xh]) rfl (fun W9 hW => by obtain ⟨⟨m0, m1, m2, m3⟩, ⟨q0, q1, q2, q3⟩⟩ := HCE.out W9 hW; go_simp) (fun _ _ _ h => h) ?_
            simp only [Act.put, List.setIfInBounds_toArray, List.set_cons_zero, List.set_cons_succ]
            refine seqI_take (v := .slice (some ⟨g, (k1 + 1) * 4, none⟩) (n - (k1 + 1)) (cap - (k1 + 1))) rfl (fun W9 hW => by clear hW; go_simp) (fun _ _ _ h => h) ?_
            simp only [Act.put, List.setIfInBounds_toArray, List.set_cons_zero, List.set_cons_succ]
            refine seqI_take (v := .int .i64 ((k3 : Int) + 1)) rfl (fun W9 hW => by clear hW; go_simp) (fun _ _ _ h => h) ?_
            simp only [Act.put, List.setIfInBounds_toArray, List.set_cons_zero, List.set_cons_succ]
            refine seqI_take (v := .int .i64 k3) rfl (fun W9 hW => by clear hW; go_simp) (fun _ _ _ h => h) ?_
            simp only [Act.put, List.setIfInBounds_toArray, List.set_cons_zero, List.set_cons_succ]
            refine seqI_take (v := .pointer (some ⟨g, (k1 + 1) * 4 + k3 * 4, none⟩)) rfl (fun W9 hW => by clear hW; go_simp) (fun _ _ _ h => h) ?_
            simp only [Act.put, List.setIfInBounds_toArray, List.set_cons_zero, List.set_cons_succ]
            refine seqI_take (v := .agg #[.string yl, .int .i64 yz, .string yt, .string yh]) rfl (fun W9 hW => by obtain ⟨⟨m0, m1, m2, m3⟩, ⟨q0, q1, q2, q3⟩⟩ := HCE.out W9 hW; go_simp) (fun _ _ _ h => h) ?_
            simp only [Act.put, List.setIfInBounds_toArray, List.set_cons_zero, List.set_cons_succ]
            refine seqI_call _ _ rfl (by go_simp) HEQ2.out ?_
            rintro e w2 ⟨rfl, hb⟩
            have hCE2 := HCE.out w2 hb
            have HCE2 := Lib.hid hCE2
            have HO2 := Lib.hid (own_keep HOd.out hb)
            have HG2 := Lib.hid (gb_below HGd.out hb)
            have hg2 : g < w2.heap.size := Nat.lt_of_lt_of_le hgd hb.size
            refine ⟨_, rfl, hb, ?_⟩
            simp only [Act.put, List.setIfInBounds_toArray, List.set_cons_zero, List.set_cons_succ]
            refine seqI_take (v := .bool (!decide (fx.code = fz.code))) rfl (fun W9 hW => by clear hW; go_simp) (fun _ _ _ h => h) ?_
            simp only [Act.put, List.setIfInBounds_toArray, List.set_cons_zero, List.set_cons_succ]
            refine seqI_nil ?_
            clear hb HCE HOd HGd HEQ2 hgd hCE2
            have HXL : Hid (fx = L.getD (k1 + (k3 + 1) + 1) default) := by
              show _ = _
              rw [HFX.out, HR.out.2.1 _ (by omega) (by omega)]
              congr 1
              omega
            have HZL : Hid (fz.code = (L.getD (k1 + (k3 + 1)) default).code) := by
              show _ = _
              rw [HFZ.out, HR.out.2.1 _ (by omega) (by omega), show k1 + 1 + k3 = k1 + (k3 + 1) by omega]
            by_cases hcode : fx.code = fz.code
            case pos =>
              rw [decide_eq_true hcode]
              have HRN : Hid (R.length = n ∧ (∀ z, k1 + (k3 + 1 + 1) ≤ z → z < n → R.getD z default = L.getD z default) ∧ Strict R i ∧ (∀ z, z < i → R.getD z default ∈ L) ∧ (R.getD (i - 1) default).code = (L.getD (k1 + (k3 + 1 + 1)) default).code) := ⟨HR.out.1, fun z h1 h2 => HR.out.2.1 z (by omega) h2, HR.out.2.2.1, HR.out.2.2.2.1, by rw [HR.out.2.2.2.2, ← HZL.out, ← hcode, HXL.out]; rfl⟩
              clear HSV HCE2 HR
              as_aux_lemma =>
                go_wp2_with fail
                go_roundw
                case rel => exact ⟨i, k3 + 1 + 1, R, rfl, by go_num, by omega, by omega, hi1, by omega, HRN, HO2, HG2⟩
                case measure => simp [intOf]; omega
            rw [decide_eq_false hcode]
            have HLT : Hid ((L.getD (k1 + (k3 + 1)) default).code < fx.code) := by
              have h1 := HS.out (k1 + (k3 + 1)) (k1 + (k3 + 1) + 1) (by omega) (by have := HN.out; omega)
              rw [← HXL.out] at h1
              have h2 := HZL.out
              show _ < _
              omega
            have HRN : Hid ((R.set i fx).length = n ∧ (∀ z, k1 + (k3 + 1 + 1) ≤ z → z < n → (R.set i fx).getD z default = L.getD z default) ∧ Strict (R.set i fx) (i + 1) ∧ (∀ z, z < i + 1 → (R.set i fx).getD z default ∈ L) ∧ ((R.set i fx).getD (i + 1 - 1) default).code = (L.getD (k1 + (k3 + 1 + 1)) default).code) := by
              have hiR : i < R.length := by have := HR.out.1; omega
              refine ⟨by rw [List.length_set]; exact HR.out.1, fun z h1 h2 => ?_, ?_, fun z hz => ?_, ?_⟩
              · rw [getD_setF R i z fx hiR, if_neg (by omega)]
                exact HR.out.2.1 z (by omega) h2
              · have h0 : Strict (R.set i fx) i := fun a b hab hb => by
                  rw [getD_setF R i a fx hiR, getD_setF R i b fx hiR, if_neg (by omega), if_neg (by omega)]
                  exact HR.out.2.2.1 a b hab hb
                refine h0.next hi1 ?_
                rw [getD_setF R i _ fx hiR, getD_setF R i _ fx hiR, if_neg (by omega), if_pos rfl, HR.out.2.2.2.2]
                exact HLT.out
              · rw [getD_setF R i z fx hiR]
                split
                · rw [HXL.out]; exact mem_getF (by have := HN.out; omega)
                · exact HR.out.2.2.2.1 z (by omega)
              · rw [Nat.add_sub_cancel, getD_setF R i i fx hiR, if_pos rfl, HXL.out]
                rfl
            have HO3 := Lib.hid (HSV.out w2 HO2.out)
            have HG3 : Hid (w.grownBy (w2.setCells g (i * 4) [.string xl, .int .i64 xz, .string xt, .string xh]) (some g)) := gb_trans HG2.out (setCells_gb g [.string xl, .int .i64 xz, .string xt, .string xh] (i * 4))
            have HRG : Hid (w2.rangeAt g ((k1 + 1) * 4 + (k3 + 1) * 4) [.string xl, .int .i64 xz, .string xt, .string xh]) := fun q v hq => by
              match q, hq with
              | 0, hq => injection hq with hq; subst hq; exact HCE2.out.1.1
              | 1, hq => injection hq with hq; subst hq; exact HCE2.out.1.2.1
              | 2, hq => injection hq with hq; subst hq; exact HCE2.out.1.2.2.1
              | 3, hq => injection hq with hq; subst hq; exact HCE2.out.1.2.2.2
            have hin : i < n := by omega
            have HTH : Hid (w2.there g (i * 4) 4) := fun q hq => by
              have hf := flat_length Fwd.cells 4 (fun _ => rfl) R
              refine ⟨?_, HO2.out.frozenAt _⟩
              rw [HO2.out.cellAt (i * 4 + q) (by have := HR.out.1; omega), List.getElem?_eq_getElem (by rw [hf]; have := HR.out.1; omega)]
              rfl
            have hini : (i : Int) < (n : Int) := by omega
            have hi0 : ¬ ((i : Int) < 0) := by omega
            clear HSV HCE2 HO2 HG2 HR
            as_aux_lemma =>
              go_wp2_with (first | (refine wpList_load_mid rfl 46 (.tmp 54) rfl g ((k1 + 1) * 4 + (k3 + 1) * 4) rfl [.string xl, .int .i64 xz, .string xt, .string xh] _ HRG.out Tryz.underlying46 rfl Tryz.fwdSz ?_) | (refine wpList_store_mid rfl 46 (.tmp 56) (.tmp 55) rfl g (i * 4) #[.string xl, .int .i64 xz, .string xt, .string xh] rfl rfl HTH.out Tryz.fwdSz (by simp [Value.oneCell']) ?_; generalize w2.setCells g (i * 4) [.string xl, .int .i64 xz, .string xt, .string xh] = w3 at HO3 HG3 ⊢; clear HTH HRG))
              go_roundw
              case rel => exact ⟨i + 1, k3 + 1 + 1, R.set i fx, by go_num, by go_num, by omega, by omega, by omega, by omega, HRN, HO3, HG3⟩
              case measure => simp [intOf]; omega
end Go.Proofs.YtkdadbpajhdelaaGreatDoor

set_option linter.unusedVariables false
set_option linter.unusedSimpArgs false
namespace Go.Proofs.YtkdadbpajhdelaaGreatDoor
open Go.RowKit Go.Sort Go.Lib Go.Shelf

set_option maxRecDepth 100000 in
set_option maxHeartbeats 4000000 in
theorem tidyF_any (w : World) (base : Nat) (v : Value) (L : List Fwd) (h : FwRow w base v L) (hl : L.length ≤ 12) (hb : base ≤ w.heap.size) : Calls Tryz.prog 25 #[v] w (CptPost base v L w) := by
  obtain ⟨K, hK⟩ : ∃ K, K = w.heap.size := ⟨_, rfl⟩
  obtain ⟨A, hA⟩ : ∃ A, A = w.alloc (.cells #[.func (.func 68) #[] #[]] 148) := ⟨_, rfl⟩
  have hAB : Below w.heap.size w A := by rw [hA]; exact ext_alloc (Below.refl _ _)
  have BK : Blk A K [.func (.func 68) #[] #[]] 148 := by rw [hA, hK]; exact Blk.new _ _ _
  have hOA : FwRow A base v L := own_more h hAB
  have hne : v.ownBlock ≠ some K := by rw [hK]; exact own_before h (Nat.le_refl _)
  obtain ⟨h1, h2⟩ := insF_all L
  have hlen : (insL (ltOf keyCF) L).length = L.length := insL_len _ _
  have HST := Lib.hid (stableF_any A base v L hOA hl K BK.lt hne (BK.cell 0 rfl))
  have HCP : Hid (∀ W, FwRow W base v (insL (ltOf keyCF) L) → A.grownBy W v.ownBlock → Calls Tryz.prog 72 #[v, .func (.func 73) #[] #[.pointer (some ⟨K, 0, none⟩)]] W (CptPost base v (insL (ltOf keyCF) L) W)) := fun W hW hg =>
    compactF_any W base v _ hW (by omega) h2 K (BK.grown hg hne).lt hne ((BK.grown hg hne).cell 0 rfl)
  have HE : Hid (∀ e W W', A.grownBy W v.ownBlock → CptPost base v (insL (ltOf keyCF) L) W e W' → CptPost base v L w e W') := fun e W W' hg hc => by
    obtain ⟨v', ys, he, hr, hm, hs, hle, hg2⟩ := hc
    exact ⟨v', ys, he, hr, fun y hy => (h1 y).1 (hm y hy), hs, by omega, gb_trans (gb_trans (gb_of_below hAB) hg) hg2⟩
  unfold FSortPost at HST
  have HAD := Lib.hid hA
  have HKE := Lib.hid hK
  clear h hOA BK hAB h1 h2 hlen hA hK hl hne
  generalize insL (ltOf keyCF) L = M at HST HCP HE
  go_enter Tryz.func25, Tryz.ntmps25
  go_upto_region 2 with (fail)
  rw [← HAD.out, ← HKE.out]
  go_wp2_with fail
  refine HST.out.mono ?_
  rintro e w1 ⟨rfl, hr, hg⟩
  have HC1 := Lib.hid (HCP.out w1 hr hg)
  have HG1 := Lib.hid hg
  clear hr hg
  go_wp2_with fail
  refine HC1.out.mono ?_
  intro e w2 hc
  have hc2 := hc
  obtain ⟨v', ys, rfl, _⟩ := hc2
  have HF := Lib.hid (HE.out _ _ _ HG1.out hc)
  clear hc
  go_wp2_with fail
  go_ret
  exact HF.out
end Go.Proofs.YtkdadbpajhdelaaGreatDoor

set_option linter.unusedVariables false
set_option linter.unusedSimpArgs false
namespace Go.Proofs.YtkdadbpajhdelaaGreatDoor
open Go.RowKit Go.Sort Go.Lib Go.Shelf

theorem infoFwd : (Tryz.prog.info? 46).map (fun i => (i.zero, i.size, i.bytes)) = some (some (.agg #[.string ⟨#[]⟩, .int .i64 0, .string ⟨#[]⟩, .string ⟨#[]⟩]), 4, 56) := by kernel_rfl
def FwdsPost (S k : Nat) (w : World) (e : Ending) (w' : World) : Prop := ∃ v ys base, e = .returned v ∧ FwRow w' base v ys ∧ S < base ∧ (∀ y ∈ ys, y.line.val ≠ y.to_.val) ∧ Strict ys ys.length ∧ ys.length ≤ 7 ∧ StreamOk w' S k ∧ Keeps S w w'
theorem bl_fwr0 (e : Operand → Value) (he : ∀ v, e (.const v) = v) (o : Oper) (w : World)  (p0 : ByteArray) (p1 : ByteArray) (p2 : ByteArray) (p3 : ByteArray) (p4 : ByteArray) (ho : o.op = .buildSlice 33 5 #[(0, .const (.string p0)), (1, .const (.string p1)), (2, .const (.string p2)), (3, .const (.string p3)), (4, .const (.string p4))])  :
   (execOp e o).run Tryz.prog w = .ok (.value (.slice (some ⟨w.heap.size, 0, none⟩) 5 5)) (w.alloc (.cells #[.string p0, .string p1, .string p2, .string p3, .string p4] 9)) := by
  unfold execOp
  rw [ho]
  simp only [List.map_toArray, List.map_cons, List.map_nil, he]
  kernel_rfl
theorem bl_fwr1 (e : Operand → Value) (he : ∀ v, e (.const v) = v) (o : Oper) (w : World)  (p0 : ByteArray) (p1 : ByteArray) (p2 : ByteArray) (ho : o.op = .buildSlice 33 3 #[(0, .const (.string p0)), (1, .const (.string p1)), (2, .const (.string p2))])  :
   (execOp e o).run Tryz.prog w = .ok (.value (.slice (some ⟨w.heap.size, 0, none⟩) 3 3)) (w.alloc (.cells #[.string p0, .string p1, .string p2] 9)) := by
  unfold execOp
  rw [ho]
  simp only [List.map_toArray, List.map_cons, List.map_nil, he]
  kernel_rfl
theorem bl_fwr2 (e : Operand → Value) (he : ∀ v, e (.const v) = v) (o : Oper) (w : World) (i0 : Nat) (p0_0 : ByteArray) (z0_1 : Int) (p0_2 : ByteArray) (p0_3 : ByteArray) (ho : o.op = .buildSlice 31 1 #[(0, .tmp i0)]) (h0 : e (.tmp i0) = .agg #[.string p0_0, .int .i64 z0_1, .string p0_2, .string p0_3]) :
   (execOp e o).run Tryz.prog w = .ok (.value (.slice (some ⟨w.heap.size, 0, none⟩) 1 1)) (w.alloc (.cells #[.string p0_0, .int .i64 z0_1, .string p0_2, .string p0_3] 46)) := by
  unfold execOp
  rw [ho]
  simp only [List.map_toArray, List.map_cons, List.map_nil, h0]
  kernel_rfl
set_option maxRecDepth 100000 in
set_option maxHeartbeats 8000000 in
theorem rightFwd_any (S k : Nat) (w : World) (h : StreamOk w S k) (hk : k ≤ 500000) : Calls Tryz.prog 6 #[.pointer (some ⟨S, 0, none⟩)] w (FwdsPost S (k + 29) w) := by
  obtain ⟨i0, hi, hz0, hz1, hz2⟩ := info_parts infoFwd
  have hSw := h.lt
  have HS := Lib.hid h
  clear h
  go_enter Tryz.func6, Tryz.ntmps6
  go_wp2_with fail
  refine (range_any S k 0 7 _ HS.out (by omega) (by omega) (by omega) (by omega)).mono ?_
  rintro e w1 ⟨z, rfl, hz0', hz1', hst, hk'⟩
  obtain ⟨m, rfl⟩ : ∃ m : Nat, z = m := ⟨z.toNat, by omega⟩
  have hm7 : m ≤ 7 := by omega
  have HS1 := Lib.hid hst
  have HK1 := Lib.hid hk'
  have HO1 : Hid (FwRow w1 w.heap.size (.slice none 0 0) []) := World.ownsRow_nil _ _ _ _
  clear hst hk' HS hz0' hz1'
  as_aux_lemma =>
    go_wp2_with fail
    go_loopw [3, 7] (fun vo it wr => ∃ (q : Nat) (M : List Fwd), q ≤ m ∧ it = .int .i64 q ∧ M.length ≤ q ∧ Hid (FwRow wr w.heap.size vo M) ∧ Hid (∀ y ∈ M, y.line.val ≠ y.to_.val) ∧ Hid (StreamOk wr S (k + 1 + 4 * q)) ∧ Hid (Keeps S w wr)) (fun _ it _ => m - (intOf it).toNat)
    case atStart => exact ⟨0, [], Nat.zero_le _, rfl, Nat.le_refl _, HO1, (fun y hy => absurd hy List.not_mem_nil), HS1, HK1⟩
    case round =>
      clear HO1 HS1 HK1
      obtain ⟨q, M, hq, rfl, hM, HO, HM, HSq, HKq⟩ := hrel
      by_cases hlq : q < m
      case neg =>
        have hqm : ¬ ((q : Int) < (m : Int)) := by omega
        have htd := Lib.hid (tidyF_any wr w.heap.size u3 M HO.out (by omega) HKq.out.size)
        have HOB : Hid (∀ b, u3.ownBlock = some b → w.heap.size ≤ b ∧ b < wr.heap.size) := fun b hb => HO.out.lt b hb
        clear HO
        as_aux_lemma =>
          go_wp2_with fail
          refine htd.out.mono ?_
          rintro e w2 ⟨v', ys, rfl, hr, hmem, hstr, hle, hg⟩
          have HF : Hid (FwdsPost S (k + 29) w (.returned v') w2) := by
            refine ⟨v', ys, w.heap.size, rfl, hr, hSw, fun y hy => HM.out y (hmem y hy), hstr, by omega, ?_, ?_⟩
            · refine (HSq.out.upto ⟨hg.os, hg.tape, hg.output, hg.size, fun j hj => hg.block j (by have := HKq.out.size; omega) (fun e => by have := (HOB.out j e.symm).1; omega)⟩).mono (by omega)
            · exact ⟨hg.os.trans HKq.out.os, hg.tape.trans HKq.out.tape, hg.output.trans HKq.out.output, Nat.le_trans HKq.out.size hg.size, fun j hj hjS => (hg.block j (Nat.lt_of_lt_of_le hj HKq.out.size) (fun e => by have := (HOB.out j e.symm).1; omega)).trans (HKq.out.block j hj hjS)⟩
          clear hr hmem hstr hle hg
          go_wp2_with fail
          go_ret
          exact HF.out
      have hqi : (q : Int) < (m : Int) := by omega
      as_aux_lemma =>
        go_wp2_with ((refine wpList_val rfl (bl_fwr0 _ (fun _ => rfl) _ _  ⟨#[108, 97]⟩ ⟨#[108, 97]⟩ ⟨#[108, 98]⟩ ⟨#[108, 99]⟩ ⟨#[108, 100]⟩ rfl) ?_))
        refine (some_lit S (k + 1 + 4 * q) [[108, 97], [108, 97], [108, 98], [108, 99], [108, 100]] (fun s => ∃ i : Fin 4, s = lineK i) _ _ _ HSq.out (by omega) rfl rfl (by decide) (by decide) (by decide)).mono ?_
        rintro e w2 ⟨s1, rfl, ⟨fl, rfl⟩, hst, hk'⟩
        have HS2 := Lib.hid hst
        have HK2 := Lib.hid (HKq.out.trans hk')
        have HO2 : Hid (FwRow w2 w.heap.size u3 M) := own_keeps HO.out hk' hSw
        clear hst hk' HSq HKq HO
        as_aux_lemma =>
          go_wp2_with fail
          refine (range_any S (k + 1 + 4 * q + 1) 1 3 _ HS2.out (by omega) (by omega) (by omega) (by omega)).mono ?_
          rintro e w3 ⟨z, rfl, hz1', hz3', hst, hk'⟩
          obtain ⟨fw, hfw⟩ : ∃ fw : Fin 3, z = ((fw.val + 1 : Nat) : Int) := ⟨⟨(z - 1).toNat, by omega⟩, by show z = (((z - 1).toNat + 1 : Nat) : Int); omega⟩
          have HFW := Lib.hid hfw
          have HS3 := Lib.hid hst
          have HK3 := Lib.hid (HK2.out.trans hk')
          have HO3 : Hid (FwRow w3 w.heap.size u3 M) := own_keeps HO2.out hk' hSw
          clear hst hk' HS2 HK2 HO2 hfw
          as_aux_lemma =>
            go_wp2_with ((refine wpList_val rfl (bl_fwr0 _ (fun _ => rfl) _ _  ⟨#[108, 97]⟩ ⟨#[108, 98]⟩ ⟨#[108, 99]⟩ ⟨#[108, 100]⟩ ⟨#[108, 101]⟩ rfl) ?_))
            refine (some_lit S (k + 1 + 4 * q + 1 + 1) [[108, 97], [108, 98], [108, 99], [108, 100], [108, 101]] (fun s => ∃ i : Fin 5, s = lineK i) _ _ _ HS3.out (by omega) rfl rfl (by decide) (by decide) (by decide)).mono ?_
            rintro e w4 ⟨s2, rfl, ⟨ft, rfl⟩, hst, hk'⟩
            have HS4 := Lib.hid hst
            have HK4 := Lib.hid (HK3.out.trans hk')
            have HO4 : Hid (FwRow w4 w.heap.size u3 M) := own_keeps HO3.out hk' hSw
            clear hst hk' HS3 HK3 HO3
            as_aux_lemma =>
              go_wp2_with ((refine wpList_val rfl (bl_fwr1 _ (fun _ => rfl) _ _  ⟨#[]⟩ ⟨#[]⟩ ⟨#[104, 97]⟩ rfl) ?_))
              refine (some_lit S (k + 1 + 4 * q + 1 + 1 + 1) [[], [], [104, 97]] (fun s => ∃ i : Fin 2, s = hourK i) _ _ _ HS4.out (by omega) rfl rfl (by decide) (by decide) (by decide)).mono ?_
              rintro e w5 ⟨s3, rfl, ⟨fh, rfl⟩, hst, hk'⟩
              have HS5 := Lib.hid hst
              have HK5 := Lib.hid (HK4.out.trans hk')
              have HO5 : Hid (FwRow w5 w.heap.size u3 M) := own_keeps HO4.out hk' hSw
              clear hst hk' HS4 HK4 HO4
              have hLT : (⟨(lineK fl).toArray⟩ : ByteArray).toList = lineK fl := by rw [Go.ByteArray.toList_eq]
              have hTT : (⟨(lineK ft).toArray⟩ : ByteArray).toList = lineK ft := by rw [Go.ByteArray.toList_eq]
              have HCM : Hid (((⟨(lineK fl).toArray⟩ : ByteArray).toList == (⟨(lineK ft).toArray⟩ : ByteArray).toList) = decide (fl.val = ft.val)) := by
                show _ = _
                rw [hLT, hTT]
                clear hLT hTT
                revert fl ft
                decide
              have HCL : Hid ((⟨fl, fw, ft, fh⟩ : Fwd).cells = [.string ⟨(lineK fl).toArray⟩, .int .i64 z, .string ⟨(lineK ft).toArray⟩, .string ⟨(hourK fh).toArray⟩]) := by show _ = _; rw [HFW.out]; rfl
              clear hLT hTT
              generalize (⟨(lineK fl).toArray⟩ : ByteArray) = lb at HCM HCL ⊢
              generalize (⟨(lineK ft).toArray⟩ : ByteArray) = tb at HCM HCL ⊢
              generalize (⟨(hourK fh).toArray⟩ : ByteArray) = hb at HCL ⊢
              have hA : Below w5.heap.size w5 (w5.alloc (.cells #[.string lb, .int .i64 z, .string tb, .string hb] 46)) := ext_alloc (Below.refl _ _)
              have X6 : Hid (Blk (w5.alloc (.cells #[.string lb, .int .i64 z, .string tb, .string hb] 46)) w5.heap.size [.string lb, .int .i64 z, .string tb, .string hb] 46) := Blk.new _ _ _
              have HS6 := Lib.hid (HS5.out.below hA)
              have HK6 := Lib.hid (HK5.out.trans (Keeps.of_below hA))
              have HO6 : Hid (FwRow (w5.alloc (.cells #[.string lb, .int .i64 z, .string tb, .string hb] 46)) w.heap.size u3 M) := own_more HO5.out hA
              clear hA HS5 HK5 HO5
              as_aux_lemma =>
                go_upto_region 5 with (fail)
                generalize (w5.alloc (.cells #[.string lb, .int .i64 z, .string tb, .string hb] 46)) = w6 at X6 HS6 HK6 HO6 ⊢
                generalize w5.heap.size = X at X6 ⊢
                have x0 := X6.out.cell 0 rfl
                have x1 := X6.out.cell 1 rfl
                have x2 := X6.out.cell 2 rfl
                have x3 := X6.out.cell 3 rfl
                by_cases hsame : fl.val = ft.val
                case pos =>
                  have hcm : (lb.toList == tb.toList) = true := by rw [HCM.out]; exact decide_eq_true hsame
                  have HS7 := Lib.hid (HS6.out.mono (k' := k + 1 + 4 * (q + 1)) (by omega))
                  clear HS6
                  as_aux_lemma =>
                    go_wp2_with fail
                    go_roundw
                    case rel => exact ⟨q + 1, M, by omega, by go_num, by omega, HO6, HM, HS7, HK6⟩
                    case measure => simp [intOf]; omega
                have hcm : (lb.toList == tb.toList) = false := by rw [HCM.out]; exact decide_eq_false hsame
                obtain ⟨wn, hwn⟩ : ∃ w', w' = w6.alloc (.cells #[.string lb, .int .i64 z, .string tb, .string hb] 46) := ⟨_, rfl⟩
                have hbn : Below w6.heap.size w6 wn := by rw [hwn]; exact ext_alloc (Below.refl _ _)
                have HZN : Hid (Blk wn w6.heap.size [.string lb, .int .i64 z, .string tb, .string hb] 46) := by rw [hwn]; exact Blk.new _ _ _
                have HNW : Hid (∀ j u, ([.string lb, .int .i64 z, .string tb, .string hb] : List Value)[j]? = some u → wn.cell? ((⟨w6.heap.size, 0, none⟩ : Addr).add j) = some u) := fun j u hj => by
                  rw [show (⟨w6.heap.size, 0, none⟩ : Addr).add j = ⟨w6.heap.size, j, none⟩ by cases j <;> simp [Addr.add]]
                  exact HZN.out.cell j hj
                have HON : Hid (wn.ownsRow w.heap.size 46 4 u3 M.length ((M.map Fwd.cells).flatten)) := own_more HO6.out hbn
                have HSN := Lib.hid (HS6.out.below hbn)
                have HKN := Lib.hid (HK6.out.trans (Keeps.of_below hbn))
                have HWN := Lib.hid hwn
                have HLM : Hid (M.length + 1 ≤ maxLen ∧ (M.length + 1) * 56 ≤ 140737488355328) := ⟨by unfold maxLen; omega, by omega⟩
                have hbw : w.heap.size ≤ wn.heap.size := HKN.out.size
                clear hbn hwn HS6 HK6 HO6
                as_aux_lemma =>
                  go_upto_region 7 with (first | ((refine wpList_val rfl (bl_fwr2 _ (fun _ => rfl) _ _ 27 lb z tb hb rfl rfl) ?_)) | (at_builtin; rw [← HWN.out]; refine wpList_append_own _ rfl (.tmp 26) (.tmp 28) 31 rfl w.heap.size 46 i0 (.agg #[.string ⟨#[]⟩, .int .i64 0, .string ⟨#[]⟩, .string ⟨#[]⟩]) 4 56 Tryz.underlying31 hi hz0 hz1 hz2 rfl (by decide) u3 M.length ((M.map Fwd.cells).flatten) rfl HON.out ⟨w6.heap.size, 0, none⟩ 1 1 [.string lb, .int .i64 z, .string tb, .string hb] rfl rfl HNW.out (by intro u hu; simp at hu; rcases hu with rfl | rfl | rfl | rfl <;> rfl) HLM.out.1 HLM.out.2 hbw ?_; intro vn wx hon hgn _))
                  have HOX : Hid (FwRow wx w.heap.size vn (M ++ [⟨fl, fw, ft, fh⟩])) := by
                    show FwRow _ _ _ _
                    unfold FwRow
                    rw [List.map_append, List.flatten_append, List.length_append]
                    simp only [List.map_cons, List.map_nil, List.flatten_cons, List.flatten_nil, List.append_nil, List.length_cons, List.length_nil]
                    rw [HCL.out]
                    exact hon
                  have HOB : Hid (∀ b, u3.ownBlock = some b → w.heap.size ≤ b ∧ b < wn.heap.size) := fun b hb => HON.out.lt b hb
                  have HSX : Hid (StreamOk wx S (k + 1 + 4 * (q + 1))) := (HSN.out.upto ⟨hgn.os, hgn.tape, hgn.output, hgn.size, fun j hj => hgn.block j (by omega) (fun e => by have := (HOB.out j e.symm).1; omega)⟩).mono (by omega)
                  have HKX : Hid (Keeps S w wx) := ⟨hgn.os.trans HKN.out.os, hgn.tape.trans HKN.out.tape, hgn.output.trans HKN.out.output, Nat.le_trans HKN.out.size hgn.size, fun j hj hjS => (hgn.block j (Nat.lt_of_lt_of_le hj HKN.out.size) (fun e => by have := (HOB.out j e.symm).1; omega)).trans (HKN.out.block j hj hjS)⟩
                  have HMX : Hid (∀ y ∈ M ++ [(⟨fl, fw, ft, fh⟩ : Fwd)], y.line.val ≠ y.to_.val) := fun y hy => by
                    rcases List.mem_append.1 hy with hy | hy
                    · exact HM.out y hy
                    · simp at hy; subst hy; exact hsame
                  clear hon hgn HON HSN HKN HWN HNW HZN x0 x1 x2 x3 hcm HOB
                  as_aux_lemma =>
                    go_wp2_with fail
                    go_roundw
                    case rel => exact ⟨q + 1, M ++ [⟨fl, fw, ft, fh⟩], by omega, by go_num, by rw [List.length_append]; simp; omega, HOX, HMX, HSX, HKX⟩
                    case measure => simp [intOf]; omega
end Go.Proofs.YtkdadbpajhdelaaGreatDoor
