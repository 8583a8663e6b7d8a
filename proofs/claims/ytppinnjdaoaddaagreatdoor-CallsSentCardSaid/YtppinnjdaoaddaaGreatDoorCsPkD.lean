/- What is proved here: lemmas and contracts for the statement, put together out of smaller texts (CarrMsrA, PlanDraw, PortTab, Blk, PortLit, CarrBox, FlatSet, RegionLate). No condition beyond those stated. -/
import Derived.Test.YtppinnjdaoaddaaGreatDoorCsPkC
import Derived.Test.YtppinnjdaoaddaaGreatDoorCsPkA
import Derived.Test.YtppinnjdaoaddaaGreatDoorCsPkB
import Derived.Test.YtppinnjdaoaddaaGreatDoorShelfPort
import Derived.Lib.ItoaLen
import Derived.Deep.MidRow
import Derived.Maps.AppendAt
set_option linter.unusedVariables false
set_option linter.unusedSimpArgs false
namespace Go.Proofs.YtppinnjdaoaddaaGreatDoor
open Go.RowKit

theorem Tryz.infoQual : (Tryz.prog.info? 56).map (fun i => (i.zero, i.size, i.bytes)) = some (some (.agg #[.string ⟨#[]⟩, .int .i64 0, .int .i64 0, .int .i64 0, .int .i64 0]), 5, 48) := by kernel_rfl
def MeasPost (l : List Carr) (rs : List Rcd) (f t : Int) (w : World) (e : Ending) (w' : World) : Prop :=
  ∃ v qs, e = .returned (.tuple #[v, .int .i64 (measE l rs f t)]) ∧ qs = (if measE l rs f t = 0 then quals l rs f t l.length else []) ∧ w'.ownsRow w.heap.size 56 5 v qs.length ((qs.map Qual.cells).flatten) ∧ Below w.heap.size w w'
theorem meas_bad {l : List Carr} {rs : List Rcd} {f t : Int} {w w' : World} {E : Int} (h : measE l rs f t = E) (hE : E ≠ 0) (hb : Below w.heap.size w w') : MeasPost l rs f t w (.returned (.tuple #[.slice none 0 0, .int .i64 E])) w' :=
  ⟨_, [], by rw [h], by rw [h, if_neg hE], World.ownsRow_nil _ _ _ _, hb⟩
theorem meas_ok {l : List Carr} {rs : List Rcd} {f t : Int} {w w' : World} {v : Value} {qs : List Qual} (h : measE l rs f t = 0) (hq : qs = quals l rs f t l.length) (ho : w'.ownsRow w.heap.size 56 5 v qs.length ((qs.map Qual.cells).flatten)) (hb : Below w.heap.size w w') : MeasPost l rs f t w (.returned (.tuple #[v, .int .i64 0])) w' :=
  ⟨v, qs, by rw [h], by rw [h, if_pos rfl, hq], ho, hb⟩
theorem rec_zero {l : List Carr} {rs : List Rcd} {k : Nat} (h : recErr l rs k = 0) : 0 ≤ (rs.getD k noRcd).talk ∧ (rs.getD k noRcd).talk ≤ 86400000 := by
  have : inB (rs.getD k noRcd).talk 0 86400000 = true := by
    cases h9 : inB (rs.getD k noRcd).talk 0 86400000 with
    | true => rfl
    | false => unfold recErr at h; rw [if_pos (Or.inr h9)] at h; cases h
  unfold inB at this
  simpa using this
theorem recs_zero {l : List Carr} {rs : List Rcd} {f t : Int} (hl : rs.length ≤ 3000) (h : recsErr l rs f t = 0) : (∀ i, i < rs.length → 0 ≤ (rs.getD i noRcd).talk ∧ (rs.getD i noRcd).talk ≤ 86400000) ∧ 0 ≤ f ∧ f ≤ t ∧ t ≤ 345686400000 := by
  unfold recsErr at h
  rw [if_neg (by omega)] at h
  by_cases h0 : firstErr (recErr l rs) rs.length = 0
  · rw [if_neg (by simp [h0])] at h
    refine ⟨fun i hi => rec_zero (first_zero h0 i hi), ?_⟩
    unfold winErr at h
    split at h
    · assumption
    · cases h
  · rw [if_pos h0] at h; exact absurd h h0
theorem quals_len (l : List Carr) (rs : List Rcd) (f t : Int) (k : Nat) : (quals l rs f t k).length ≤ k := by
  unfold quals
  exact Nat.le_trans (List.length_filterMap_le _ _) (by simp)
theorem cnt_succ (rs : List Rcd) (key : List UInt8) (f t : Int) (k : Nat) :
    (((rs.getD k noRcd).carrier = key ∧ f ≤ (rs.getD k noRcd).at_ ∧ (rs.getD k noRcd).at_ < t) → (rs.getD k noRcd).how = 1 → cntTo rs key f t (k + 1) = ⟨(cntTo rs key f t k).calls + 1, (cntTo rs key f t k).good + 1, (cntTo rs key f t k).talk + (rs.getD k noRcd).talk⟩) ∧
    (((rs.getD k noRcd).carrier = key ∧ f ≤ (rs.getD k noRcd).at_ ∧ (rs.getD k noRcd).at_ < t) → (rs.getD k noRcd).how ≠ 1 → cntTo rs key f t (k + 1) = ⟨(cntTo rs key f t k).calls + 1, (cntTo rs key f t k).good, (cntTo rs key f t k).talk⟩) ∧
    (¬ ((rs.getD k noRcd).carrier = key ∧ f ≤ (rs.getD k noRcd).at_ ∧ (rs.getD k noRcd).at_ < t) → cntTo rs key f t (k + 1) = ⟨(cntTo rs key f t k).calls, (cntTo rs key f t k).good, (cntTo rs key f t k).talk⟩) := by
  have e : cntTo rs key f t (k + 1) = if inWin key f t (rs.getD k noRcd) then (if (rs.getD k noRcd).how = 1 then ⟨(cntTo rs key f t k).calls + 1, (cntTo rs key f t k).good + 1, (cntTo rs key f t k).talk + (rs.getD k noRcd).talk⟩ else ⟨(cntTo rs key f t k).calls + 1, (cntTo rs key f t k).good, (cntTo rs key f t k).talk⟩) else cntTo rs key f t k := rfl
  rw [e]
  have i : inWin key f t (rs.getD k noRcd) ↔ ((rs.getD k noRcd).carrier = key ∧ f ≤ (rs.getD k noRcd).at_ ∧ (rs.getD k noRcd).at_ < t) := Iff.rfl
  exact ⟨fun h1 h2 => by rw [if_pos (i.2 h1), if_pos h2], fun h1 h2 => by rw [if_pos (i.2 h1), if_neg h2], fun h1 => by rw [if_neg (fun h => h1 (i.1 h))]⟩
theorem qcells_snoc (l : List Qual) (q : Qual) : ((l ++ [q]).map Qual.cells).flatten = (l.map Qual.cells).flatten ++ Qual.cells q := by simp
theorem wp_val {P : Program} {o : Oper} {a : Act} {w w' : World} {v : Value} {K : Act → World → Prop} {Q : Exit → Act → World → Prop} (h : (execOp a.eval o).run P w = .ok (.value v) w') (hk : K (a.put o.dst v) w') : o.wp P a w K Q := by
  unfold Oper.wp
  rw [h]
  exact hk
theorem bs_q1 (e : Operand → Value) (o : Oper) (w : World) (i0 : Nat) (p : ByteArray) (z1 z2 z3 z4 : Int) (ho : o.op = .buildSlice 47 1 #[(0, .tmp i0)]) (h0 : e (.tmp i0) = .agg #[.string p, .int .i64 z1, .int .i64 z2, .int .i64 z3, .int .i64 z4]) :
   (execOp e o).run Tryz.prog w = .ok (.value (.slice (some ⟨w.heap.size, 0, none⟩) 1 1)) (w.alloc (.cells #[.string p, .int .i64 z1, .int .i64 z2, .int .i64 z3, .int .i64 z4] 56)) := by
  unfold execOp
  rw [ho]
  simp only [List.map_toArray, List.map_cons, List.map_nil, h0]
  kernel_rfl
end Go.Proofs.YtppinnjdaoaddaaGreatDoor

set_option linter.unusedVariables false
set_option linter.unusedSimpArgs false
namespace Go.Proofs.YtppinnjdaoaddaaGreatDoor
open Go.RowKit

theorem range_gen (S k : Nat) (lo hi : Int) (w : World) (h : StreamOk w S k) (hk : k ≤ 1000000000) (h2 : -4611686018427387904 ≤ lo) (h3 : hi ≤ 4611686018427387000) :
    Calls Tryz.prog 8 #[.pointer (some ⟨S, 0, none⟩), .int .i64 lo, .int .i64 hi] w (PickPost S (k + 1) (fun r => lo ≤ r ∧ (r ≤ lo ∨ r ≤ hi)) w) := by
  by_cases hlt : hi < lo
  · have HS := Lib.hid (h.mono (Nat.le_succ _))
    clear h
    go_enter Tryz.func8, Tryz.ntmps8
    go_wp2_with fail
    go_ret
    exact ⟨lo, rfl, ⟨Int.le_refl _, Or.inl (Int.le_refl _)⟩, HS.out, Keeps.refl _ _⟩
  · refine (range_any S k lo hi w h hk (by omega) h2 h3).mono ?_
    rintro e w' ⟨r, rfl, r0, r1, hst, hkp⟩
    exact ⟨r, rfl, ⟨r0, Or.inr r1⟩, hst, hkp⟩

set_option maxRecDepth 100000 in
theorem odd_any (S k : Nat) (lo hi : Int) (w : World) (h : StreamOk w S k) (hk : k ≤ 100000000) (h0 : 0 ≤ lo) (h1 : lo ≤ hi) (h2 : hi ≤ 400000000000) :
    Calls Tryz.prog 51 #[.pointer (some ⟨S, 0, none⟩), .int .i64 lo, .int .i64 hi] w (PickPost S (k + 2) (fun r => -1099511627776 ≤ r ∧ r ≤ 1099511627776) w) := by
  have HS := Lib.hid h
  have hlt := h.lt
  clear h
  go_enter Tryz.func51, Tryz.ntmps51
  go_wp2_with fail
  refine (flip_any S k 12 _ HS.out (by omega) (by decide) (by decide)).mono ?_
  rintro e w1 ⟨r, rfl, hst, hkp⟩
  have HS1 := Lib.hid hst
  have HK1 := Lib.hid hkp
  have hl1 := hst.lt
  clear hst hkp
  cases r
  · go_wp2_with fail
    refine (range_any S (k + 1) lo hi _ HS1.out (by omega) h1 (by omega) (by omega)).mono ?_
    rintro e w2 ⟨r, rfl, r0, r1, hst2, hkp2⟩
    have HK2 := Lib.hid (HK1.out.trans hkp2)
    have HS2 := Lib.hid hst2
    clear hst2 hkp2
    go_wp2_with fail
    go_ret
    exact ⟨r, rfl, ⟨by omega, by omega⟩, HS2.out, HK2.out⟩
  · go_wp2_with fail
    refine (pick_any S (k + 1) w1.heap.size 6 6 [lo - 1, hi + 1, lo, hi, -1099511627776, 1099511627776] (fun r => -1099511627776 ≤ r ∧ r ≤ 1099511627776) _ (HS1.out.below (ext_alloc (Below.refl _ _))) (by omega) (by simp) (by omega) (by omega) (by omega) (fun i h9 => by match i, h9 with | 0, _ | 1, _ | 2, _ | 3, _ | 4, _ | 5, _ => go_simp) (fun i h9 => by match i, h9 with | 0, _ => exact ⟨by show _ ≤ lo - 1; omega, by show lo - 1 ≤ _; omega⟩ | 1, _ => exact ⟨by show _ ≤ hi + 1; omega, by show hi + 1 ≤ _; omega⟩ | 2, _ => exact ⟨by show _ ≤ lo; omega, by show lo ≤ _; omega⟩ | 3, _ => exact ⟨by show _ ≤ hi; omega, by show hi ≤ _; omega⟩ | 4, _ => exact ⟨by show (-1099511627776 : Int) ≤ -1099511627776; decide, by show (-1099511627776 : Int) ≤ 1099511627776; decide⟩ | 5, _ => exact ⟨by show (-1099511627776 : Int) ≤ 1099511627776; decide, by show (1099511627776 : Int) ≤ 1099511627776; decide⟩)).mono ?_
    rintro e w2 ⟨r, rfl, hr, hst2, hkp2⟩
    have HK2 := Lib.hid ((HK1.out.alloc _).trans hkp2)
    have HS2 := Lib.hid hst2
    have HR := Lib.hid hr
    clear hst2 hkp2 hr
    go_wp2_with fail
    go_ret
    exact ⟨r, rfl, HR.out, HS2.out, HK2.out⟩

/-! ### Plans in memory that may be written -/
/-- Country i of a plan in block P, with its areas in a block of their own. -/
structure CtryAt (S P : Nat) (base : Nat) (w : World) (i : Nat) (c : Ctry) (b : Nat) : Prop where
  cells : ∀ j, j < 4 → w.cell? ⟨P, i * 4 + j, none⟩ = c.cells[j]?
  fine : CtryFine w c
  some : 1 ≤ c.an
  at_ : c.aa = Option.some ⟨b, 0, none⟩
  off : b ≠ S
  offP : b ≠ P
  lt : b < w.heap.size
  new : base ≤ b
  fro : ∀ j, w.frozen? ⟨b, j, none⟩ = false
structure PlanAt (S P : Nat) (base : Nat) (w : World) (l : List Ctry) (bs : List Nat) : Prop where
  len : l.length = 3
  each : ∀ i, i < 3 → CtryAt S P base w i (l.getD i noCtry) (bs.getD i 0)
  offS : P ≠ S
  lt : P < w.heap.size
  new : base ≤ P
  fro : ∀ j, w.frozen? ⟨P, j, none⟩ = false

def areaCells (l : List Area) : List Value := l.flatMap Area.cells
/-- A plan that a stream has handed out. -/
def PlanPost (S k : Nat) (w : World) (e : Ending) (w' : World) : Prop :=
  ∃ (P : Nat) (l : List Ctry), e = .returned (.slice (some ⟨P, 0, none⟩) 3 3) ∧ (∀ w9, Keeps S w' w9 → CtryRow w9 (some ⟨P, 0, none⟩) 3 l) ∧ (∀ i, i < l.length → 1 ≤ (l.getD i noCtry).an) ∧ StreamOk w' S k ∧ Keeps S w w'

theorem AreaRow.keeps {S : Nat} {w w' : World} {b n : Nat} {l : List Area} (h : AreaRow w (some ⟨b, 0, none⟩) n l) (hb : b ≠ S) (hk : Keeps S w w') : AreaRow w' (some ⟨b, 0, none⟩) n l := by
  refine ⟨h.len, h.row.imp id ?_⟩
  rintro ⟨b9, off, ha, hl, hc⟩
  injection ha with ha
  injection ha with e1 e2
  subst e1 e2
  exact ⟨b, 0, rfl, Nat.lt_of_lt_of_le hl hk.size, fun i hi j hj => (hk.cell (p := ⟨b, 0 + i * 3 + j, none⟩) hl hb).trans (hc i hi j hj)⟩
theorem CtryAt.keeps {S P base : Nat} {w w' : World} {i : Nat} {c : Ctry} {b : Nat} (h : CtryAt S P base w i c b) (hP : P < w.heap.size) (hS : P ≠ S) (hk : Keeps S w w') : CtryAt S P base w' i c b :=
  ⟨fun j hj => (hk.cell (p := ⟨P, i * 4 + j, none⟩) hP hS).trans (h.cells j hj), ⟨h.fine.code, h.fine.abroad, h.fine.trunk, h.fine.many, by have := h.fine.row; rw [h.at_] at this ⊢; exact this.keeps h.off hk, h.fine.each⟩, h.some, h.at_, h.off, h.offP, Nat.lt_of_lt_of_le h.lt hk.size, h.new, fun j => (hk.frozen (p := ⟨b, j, none⟩) h.lt h.off).trans (h.fro j)⟩
theorem PlanAt.keeps {S P base : Nat} {w w' : World} {l : List Ctry} {bs : List Nat} (h : PlanAt S P base w l bs) (hk : Keeps S w w') : PlanAt S P base w' l bs :=
  ⟨h.len, fun i hi => (h.each i hi).keeps h.lt h.offS hk, h.offS, Nat.lt_of_lt_of_le h.lt hk.size, h.new, fun j => (hk.frozen (p := ⟨P, j, none⟩) h.lt h.offS).trans (h.fro j)⟩
theorem PlanAt.row {S P base : Nat} {w : World} {l : List Ctry} {bs : List Nat} (h : PlanAt S P base w l bs) : CtryRow w (some ⟨P, 0, none⟩) 3 l :=
  ⟨h.len.symm, by omega, Or.inr ⟨P, 0, rfl, h.lt, fun i hi j hj => by rw [Nat.zero_add]; exact (h.each i hi).cells j hj⟩, fun i hi => (h.each i (by rw [h.len] at hi; exact hi)).fine⟩
theorem PlanAt.post {S P k : Nat} {w w' : World} {l : List Ctry} {bs : List Nat} {base : Nat} (h : PlanAt S P base w' l bs) (hs : StreamOk w' S k) (hk : Keeps S w w') : PlanPost S k w (.returned (.slice (some ⟨P, 0, none⟩) 3 3)) w' :=
  ⟨P, l, rfl, fun w9 h9 => (h.keeps h9).row, fun i hi => (h.each i (by rw [h.len] at hi; exact hi)).some, hs, hk⟩

/-- One area, written out. -/
def ar (p : List UInt8) (lo hi : Int) : Area := ⟨p, lo, hi⟩
theorem area_row2 {w : World} {b : Nat} {x y : Area} (hb : b < w.heap.size) (h : ∀ j v, ((x.cells ++ y.cells) : List Value)[j]? = some v → w.cell? ⟨b, j, none⟩ = some v) : AreaRow w (some ⟨b, 0, none⟩) 2 [x, y] := by
  refine ⟨rfl, Or.inr ⟨b, 0, rfl, hb, fun i hi j hj => ?_⟩⟩
  match i, hi, j, hj with
  | 0, _, 0, _ => exact h 0 _ rfl
  | 0, _, 1, _ => exact h 1 _ rfl
  | 0, _, 2, _ => exact h 2 _ rfl
  | 1, _, 0, _ => exact h 3 _ rfl
  | 1, _, 1, _ => exact h 4 _ rfl
  | 1, _, 2, _ => exact h 5 _ rfl
theorem area_row3 {w : World} {b : Nat} {x y z : Area} (hb : b < w.heap.size) (h : ∀ j v, ((x.cells ++ y.cells ++ z.cells) : List Value)[j]? = some v → w.cell? ⟨b, j, none⟩ = some v) : AreaRow w (some ⟨b, 0, none⟩) 3 [x, y, z] := by
  refine ⟨rfl, Or.inr ⟨b, 0, rfl, hb, fun i hi j hj => ?_⟩⟩
  match i, hi, j, hj with
  | 0, _, 0, _ => exact h 0 _ rfl
  | 0, _, 1, _ => exact h 1 _ rfl
  | 0, _, 2, _ => exact h 2 _ rfl
  | 1, _, 0, _ => exact h 3 _ rfl
  | 1, _, 1, _ => exact h 4 _ rfl
  | 1, _, 2, _ => exact h 5 _ rfl
  | 2, _, 0, _ => exact h 6 _ rfl
  | 2, _, 1, _ => exact h 7 _ rfl
  | 2, _, 2, _ => exact h 8 _ rfl

theorem heap_new (w : World) (o : Obj) : (w.alloc o).heap[w.heap.size]? = some o := by unfold World.alloc; simp
theorem block_cell {w : World} {b : Nat} {cs : Array Value} {t : TypeId} (h : w.heap[b]? = some (.cells cs t)) (j : Nat) : w.cell? ⟨b, j, none⟩ = cs[j]? := by simp [World.cell?, h]
theorem block_fro {w : World} {b : Nat} {cs : Array Value} {t : TypeId} (h : w.heap[b]? = some (.cells cs t)) (j : Nat) : w.frozen? ⟨b, j, none⟩ = false := by simp [World.frozen?, h]

end Go.Proofs.YtppinnjdaoaddaaGreatDoor

set_option linter.unusedVariables false
set_option linter.unusedSimpArgs false
namespace Go.Proofs.YtppinnjdaoaddaaGreatDoor
open Go.RowKit

/-- The table of powers of ten is laid, ahead of block S. -/
def TabW (S : Nat) (w : World) : Prop := Lib.TabIs Tryz.prog w "internal/strconv.uint64pow10" .u64 Lib.pow10Tab ∧ 1 < S
theorem gPow : Tryz.prog.globalNamed "internal/strconv.uint64pow10" = some 1 := by kernel_rfl
theorem tab_block {w w' : World} {S : Nat} (h : TabW S w) (hb : w'.heap[1]? = w.heap[1]?) : TabW S w' := by
  refine ⟨?_, h.2⟩
  have h1 := h.1
  unfold Lib.TabIs World.var? at h1 ⊢
  rw [gPow] at h1 ⊢
  simp only [Option.bind_some] at h1 ⊢
  rw [hb]
  exact h1
theorem tab_keeps {w w' : World} {S : Nat} (h : TabW S w) (hk : Keeps S w w') (hS : S < w.heap.size) : TabW S w' :=
  tab_block h (hk.block _ (Nat.lt_trans h.2 hS) (Nat.ne_of_lt h.2))
theorem tab_below {w w' : World} {S B : Nat} (h : TabW S w) (hb : Below B w w') (hS : S ≤ B) : TabW S w' :=
  tab_block h (hb.block _ (Nat.lt_of_lt_of_le h.2 hS))
theorem below_grow (w : World) (q : Nat) (os : Array Obj) : Below w.heap.size w (Go.Sort.grow (w.drewN q) os) := by
  refine ⟨rfl, rfl, rfl, ?_, fun k hk => Go.Sort.heap_grow_old _ _ hk⟩
  rw [Go.Sort.size_grow]
  exact Nat.le_add_right _ _
end Go.Proofs.YtppinnjdaoaddaaGreatDoor

set_option linter.unusedVariables false
set_option linter.unusedSimpArgs false
namespace Go.Proofs.YtppinnjdaoaddaaGreatDoor
open Go.RowKit

/-- Block B holds just these cells. -/
structure Blk (w : World) (B : Nat) (cs : List Value) (ty : TypeId) : Prop where
  at_ : w.heap[B]? = some (.cells cs.toArray ty (0, 0))
theorem Blk.lt {w : World} {B : Nat} {cs : List Value} {ty : TypeId} (h : Blk w B cs ty) : B < w.heap.size := (Array.getElem?_eq_some_iff.1 h.at_).1
theorem Blk.cell {w : World} {B : Nat} {cs : List Value} {ty : TypeId} (h : Blk w B cs ty) (i : Nat) {v : Value} (hv : cs[i]? = some v) : w.cell? ⟨B, i, none⟩ = some v := by
  simp [World.cell?, h.at_, hv]
theorem Blk.fr {w : World} {B : Nat} {cs : List Value} {ty : TypeId} (h : Blk w B cs ty) (j : Nat) : w.frozen? ⟨B, j, none⟩ = false := by
  simp [World.frozen?, h.at_]
theorem Blk.same {w w' : World} {B : Nat} {cs : List Value} {ty : TypeId} (h : Blk w B cs ty) (hb : w'.heap[B]? = w.heap[B]?) : Blk w' B cs ty := ⟨hb.trans h.at_⟩
theorem Blk.keeps {S : Nat} {w w' : World} {B : Nat} {cs : List Value} {ty : TypeId} (h : Blk w B cs ty) (hk : Keeps S w w') (hn : B ≠ S) : Blk w' B cs ty := h.same (hk.block B h.lt hn)
theorem Blk.below {w w' : World} {B : Nat} {cs : List Value} {ty : TypeId} (h : Blk w B cs ty) (hb : Below w.heap.size w w') : Blk w' B cs ty := h.same (hb.block B h.lt)
theorem Blk.grown {w w' : World} {B : Nat} {cs : List Value} {ty : TypeId} {row : Option Nat} (h : Blk w B cs ty) (hg : w.grownBy w' row) (hn : row ≠ some B) : Blk w' B cs ty := h.same (hg.block B h.lt (fun e => hn e.symm))
theorem Blk.far {w : World} {B : Nat} {cs : List Value} {ty : TypeId} {p : Addr} {u : Value} (h : Blk w B cs ty) (hn : p.block ≠ B) : Blk (w.setCell p u) B cs ty := h.same (Below.heap_setCell _ _ _ _ (Ne.symm hn))
theorem Blk.alloc {w : World} {B : Nat} {cs : List Value} {ty : TypeId} (h : Blk w B cs ty) (o : Obj) : Blk (w.alloc o) B cs ty := h.same (Below.heap_alloc _ _ _ h.lt)
theorem Blk.new (w : World) (cs : List Value) (ty : TypeId) : Blk (w.alloc (.cells cs.toArray ty)) w.heap.size cs ty := ⟨by
  show (w.heap.push _)[w.heap.size]? = _
  simp⟩
theorem Blk.put {w : World} {B : Nat} {cs : List Value} {ty : TypeId} (h : Blk w B cs ty) (i : Nat) (u : Value) : Blk (w.setCell ⟨B, i, none⟩ u) B (cs.set i u) ty := ⟨by
  simp [World.setCell, Array.getElem?_modify, h.at_]⟩
theorem Blk.size {w : World} {B : Nat} {cs : List Value} {ty : TypeId} (h : Blk w B cs ty) : (w.cell? ⟨B, cs.length, none⟩) = none := by
  simp [World.cell?, h.at_]
theorem Blk.th {w : World} {B : Nat} {cs : List Value} {ty : TypeId} (h : Blk w B cs ty) (n : Nat) (hn : n ≤ cs.length) : w.there B 0 n := fun j hj => by
  refine ⟨?_, ?_⟩
  · simp [World.cell?, h.at_]; omega
  · simp [World.frozen?, h.at_]
end Go.Proofs.YtppinnjdaoaddaaGreatDoor

set_option linter.unusedVariables false
set_option linter.unusedSimpArgs false
namespace Go.Proofs.YtppinnjdaoaddaaGreatDoor
open Go.RowKit

theorem pick_lit (S k : Nat) (vals : List Int) (P : Int → Prop) (w : World) (cs : Array Value) (n : Nat) (h : StreamOk w S k) (hk : k ≤ 1000000000) (hcs : cs.toList = vals.map (Value.int .i64)) (hn : n = vals.length) (h1 : 1 ≤ vals.length) (h2 : vals.length ≤ 1000) (hP : ∀ x ∈ vals, P x) :
    Calls Tryz.prog 11 #[.pointer (some ⟨S, 0, none⟩), .slice (some ⟨w.heap.size, 0, none⟩) n n] (w.alloc (.cells cs 3)) (PickPost S (k + 1) P w) := by
  have hl := h.lt
  subst hn
  have hcs' : cs = (vals.map (Value.int .i64)).toArray := by rw [← hcs]
  subst hcs'
  refine (pick_any S k w.heap.size vals.length vals.length vals P _ (h.below (ext_alloc (Below.refl _ _))) hk (by simp) (by omega) h1 h2 (fun i hi => ?_) (fun i hi => ?_)).mono ?_
  · exact (new_cell w _ 3 (0, 0) i).trans (by simp [hi])
  · rw [show vals.getD i _ = vals[i] by simp [hi]]
    exact hP _ (List.getElem_mem hi)
  · rintro e w' ⟨r, rfl, hr, hst, hkp⟩
    exact ⟨r, rfl, hr, hst, (Keeps.of_below (ext_alloc (Below.refl _ _))).trans hkp⟩
theorem some_lit (S k : Nat) (vals : List (List UInt8)) (P : List UInt8 → Prop) (w : World) (cs : Array Value) (n : Nat) (h : StreamOk w S k) (hk : k ≤ 1000000000) (hcs : cs.toList = vals.map fun s => Value.string ⟨s.toArray⟩) (hn : n = vals.length) (h1 : 1 ≤ vals.length) (h2 : vals.length ≤ 1000) (hP : ∀ x ∈ vals, P x) :
    Calls Tryz.prog 26 #[.pointer (some ⟨S, 0, none⟩), .slice (some ⟨w.heap.size, 0, none⟩) n n] (w.alloc (.cells cs 9)) (SomePost S (k + 1) P w) := by
  have hl := h.lt
  subst hn
  have hcs' : cs = (vals.map fun s => Value.string ⟨s.toArray⟩).toArray := by rw [← hcs]
  subst hcs'
  refine (some_any S k w.heap.size vals.length vals.length vals P _ (h.below (ext_alloc (Below.refl _ _))) hk (by simp) (by omega) h1 h2 (fun i hi => ?_) (fun i hi => ?_)).mono ?_
  · exact (new_cell w _ 9 (0, 0) i).trans (by simp [hi])
  · rw [show vals.getD i _ = vals[i] by simp [hi]]
    exact hP _ (List.getElem_mem hi)
  · rintro e w' ⟨r, rfl, hr, hst, hkp⟩
    exact ⟨r, rfl, hr, hst, (Keeps.of_below (ext_alloc (Below.refl _ _))).trans hkp⟩

theorem bs_p6 (e : Operand → Value) (he : ∀ v, e (.const v) = v) (o : Oper) (w : World) (ho : o.op = .buildSlice 22 6 #[(0, .const (.int .i64 0)), (1, .const (.int .i64 0)), (2, .const (.int .i64 1)), (3, .const (.int .i64 9)), (4, .const (.int .i64 99)), (5, .const (.int .i64 300))]) :
   (execOp e o).run Tryz.prog w = .ok (.value (.slice (some ⟨w.heap.size, 0, none⟩) 6 6)) (w.alloc (.cells #[.int .i64 0, .int .i64 0, .int .i64 1, .int .i64 9, .int .i64 99, .int .i64 300] 3)) := by
  unfold execOp
  rw [ho]
  simp only [List.map_toArray, List.map_cons, List.map_nil, he]
  kernel_rfl
theorem bs_p5 (e : Operand → Value) (he : ∀ v, e (.const v) = v) (o : Oper) (w : World) (ho : o.op = .buildSlice 22 5 #[(0, .const (.int .i64 2)), (1, .const (.int .i64 2)), (2, .const (.int .i64 3)), (3, .const (.int .i64 10)), (4, .const (.int .i64 50))]) :
   (execOp e o).run Tryz.prog w = .ok (.value (.slice (some ⟨w.heap.size, 0, none⟩) 5 5)) (w.alloc (.cells #[.int .i64 2, .int .i64 2, .int .i64 3, .int .i64 10, .int .i64 50] 3)) := by
  unfold execOp
  rw [ho]
  simp only [List.map_toArray, List.map_cons, List.map_nil, he]
  kernel_rfl
theorem bs_p3 (e : Operand → Value) (he : ∀ v, e (.const v) = v) (o : Oper) (w : World) (ho : o.op = .buildSlice 22 3 #[(0, .const (.int .i64 1)), (1, .const (.int .i64 10)), (2, .const (.int .i64 50))]) :
   (execOp e o).run Tryz.prog w = .ok (.value (.slice (some ⟨w.heap.size, 0, none⟩) 3 3)) (w.alloc (.cells #[.int .i64 1, .int .i64 10, .int .i64 50] 3)) := by
  unfold execOp
  rw [ho]
  simp only [List.map_toArray, List.map_cons, List.map_nil, he]
  kernel_rfl
theorem bs_inst (e : Operand → Value) (he : ∀ v, e (.const v) = v) (o : Oper) (w : World) (i8 i9 i10 : Nat) (z8 z9 z10 : Int) (ho : o.op = .buildSlice 22 11 #[(0, .const (.int .i64 0)), (1, .const (.int .i64 5)), (2, .const (.int .i64 10)), (3, .const (.int .i64 20)), (4, .const (.int .i64 30)), (5, .const (.int .i64 40)), (6, .const (.int .i64 60)), (7, .const (.int .i64 100)), (8, .tmp i8), (9, .tmp i9), (10, .tmp i10)]) (h8 : e (.tmp i8) = .int .i64 z8) (h9 : e (.tmp i9) = .int .i64 z9) (h10 : e (.tmp i10) = .int .i64 z10) :
   (execOp e o).run Tryz.prog w = .ok (.value (.slice (some ⟨w.heap.size, 0, none⟩) 11 11)) (w.alloc (.cells #[.int .i64 0, .int .i64 5, .int .i64 10, .int .i64 20, .int .i64 30, .int .i64 40, .int .i64 60, .int .i64 100, .int .i64 z8, .int .i64 z9, .int .i64 z10] 3)) := by
  unfold execOp
  rw [ho]
  simp only [List.map_toArray, List.map_cons, List.map_nil, he, h8, h9, h10]
  kernel_rfl

set_option maxRecDepth 100000 in
set_option maxHeartbeats 1000000 in
theorem instant_any (S k : Nat) (w : World) (h : StreamOk w S k) (hk : k ≤ 10000000) : Calls Tryz.prog 27 #[.pointer (some ⟨S, 0, none⟩)] w (PickPost S (k + 4) (fun _ => True) w) := by
  have HS := Lib.hid h
  clear h
  go_enter Tryz.func27, Tryz.ntmps27
  go_wp2_with fail
  refine (next_any S k 200 _ HS.out (by omega) (by decide) (by decide)).mono ?_
  rintro e w1 ⟨r1, rfl, a0, a1, hst1, hk1⟩
  have HS1 := Lib.hid hst1
  have HK1 := Lib.hid hk1
  clear hst1 hk1 HS
  as_aux_lemma =>
    go_wp2_with fail
    refine (next_any S (k + 1) 200 _ HS1.out (by omega) (by decide) (by decide)).mono ?_
    rintro e w2 ⟨r2, rfl, b0, b1, hst2, hk2⟩
    have HS2 := Lib.hid hst2
    have HK2 := Lib.hid (HK1.out.trans hk2)
    clear hst2 hk2 HS1 HK1
    as_aux_lemma =>
      go_wp2_with fail
      refine (pick_lit S (k + 1 + 1) [345686399999, -1, 345686400000] (fun _ => True) _ _ _ HS2.out (by omega) rfl rfl (by decide) (by decide) (fun _ _ => trivial)).mono ?_
      rintro e w3 ⟨r3, rfl, -, hst3, hk3⟩
      have HS3 := Lib.hid hst3
      have HK3 := Lib.hid (HK2.out.trans hk3)
      clear hst3 hk3 HS2 HK2
      as_aux_lemma =>
        go_wp2_with (first | (refine wpList_val rfl (bs_inst _ (fun _ => rfl) _ _ _ _ _ _ _ _ rfl rfl rfl rfl) ?_))
        refine (pick_lit S (k + 1 + 1 + 1) [0, 5, 10, 20, 30, 40, 60, 100, r1, r2, r3] (fun _ => True) _ _ _ HS3.out (by omega) rfl rfl (by simp) (by simp) (fun _ _ => trivial)).mono ?_
        rintro e w4 ⟨r4, rfl, -, hst4, hk4⟩
        have HS4 := Lib.hid hst4
        have HK4 := Lib.hid (HK3.out.trans hk4)
        clear hst4 hk4 HS3 HK3
        go_wp2_with fail
        go_ret
        exact ⟨r4, rfl, trivial, HS4.out, HK4.out⟩
end Go.Proofs.YtppinnjdaoaddaaGreatDoor

set_option linter.unusedVariables false
set_option linter.unusedSimpArgs false
namespace Go.Proofs.YtppinnjdaoaddaaGreatDoor
open Go.RowKit

theorem own_set {w : World} {base : Nat} {e : TypeId} {size : Nat} {v : Value} {n : Nat} {xs : List Value} (h : w.ownsRow base e size v n xs) {p : Addr} {u : Value} (hp : v.ownBlock ≠ some p.block) : (w.setCell p u).ownsRow base e size v n xs :=
  own_if h (KeepsIf.set (p := fun b => v.ownBlock = some b) (fun b e e' => hp (by rw [e']; exact e))) (fun b e => e)
theorem ne_off {B i j : Nat} (h : i ≠ j) : (⟨B, i, none⟩ : Addr) ≠ ⟨B, j, none⟩ := by intro e; injection e with _ e2 _; exact h e2
theorem ne_blk {B C i j : Nat} (h : B ≠ C) : (⟨B, i, none⟩ : Addr) ≠ ⟨C, j, none⟩ := by intro e; injection e with e1 _ _; exact h e1
theorem box_th {w : World} {B : Nat} {vs : Array Value} {ty : TypeId} (h : w.heap[B]? = some (.cells vs ty (0, 0))) : w.there B 0 vs.size := fun j hj => by
  refine ⟨?_, ?_⟩
  · simp [World.cell?, h, hj]
  · simp [World.frozen?, h]
/-- A place of n cells that can be written. -/
structure Room (w : World) (F n : Nat) : Prop where
  lt : F < w.heap.size
  th : w.there F 0 n
theorem Room.keeps {w w' : World} {F n S : Nat} (h : Room w F n) (hk : Keeps S w w') (hn : F ≠ S) : Room w' F n :=
  ⟨Nat.lt_of_lt_of_le h.lt hk.size, fun j hj => by
    obtain ⟨h1, h2⟩ := h.th j hj
    exact ⟨by rw [hk.cell (p := ⟨F, 0 + j, none⟩) h.lt hn]; exact h1, by rw [hk.frozen (p := ⟨F, 0 + j, none⟩) h.lt hn]; exact h2⟩⟩
theorem Room.below {w w' : World} {F n : Nat} (h : Room w F n) (hb : Below w.heap.size w w') : Room w' F n :=
  ⟨Nat.lt_of_lt_of_le h.lt hb.size, fun j hj => by
    obtain ⟨h1, h2⟩ := h.th j hj
    exact ⟨by rw [hb.cell (p := ⟨F, 0 + j, none⟩) h.lt]; exact h1, by rw [hb.frozen (p := ⟨F, 0 + j, none⟩) h.lt]; exact h2⟩⟩
theorem Room.grown {w w' : World} {F n : Nat} {row : Option Nat} (h : Room w F n) (hg : w.grownBy w' row) (hn : row ≠ some F) : Room w' F n :=
  ⟨Nat.lt_of_lt_of_le h.lt hg.size, fun j hj => by
    obtain ⟨h1, h2⟩ := h.th j hj
    have hb := hg.block F h.lt (fun e => hn e.symm)
    exact ⟨by rw [World.cell?_of_block (a := ⟨F, 0 + j, none⟩) hb]; exact h1, by rw [World.frozen?_of_block (a := ⟨F, 0 + j, none⟩) hb]; exact h2⟩⟩
theorem Room.set {w : World} {F n : Nat} (h : Room w F n) (B o : Nat) (u : Value) : Room (w.setCell ⟨B, o, none⟩ u) F n :=
  ⟨by simpa using h.lt, World.there_setCells h.th B o [u]⟩
theorem below_setCells {S F : Nat} (hS : S ≤ F) : ∀ (vs : List Value) (w : World) (k : Nat), Below S w (w.setCells F k vs)
  | [], w, k => Below.refl _ _
  | v :: vs, w, k => ((Below.refl S w).setCell (p := ⟨F, k, none⟩) hS v).trans (below_setCells hS vs (w.setCell ⟨F, k, none⟩ v) (k + 1))
theorem keeps_setCells {S F : Nat} {a : World} (hF : a.heap.size ≤ F) : ∀ (vs : List Value) (w : World) (k : Nat), Keeps S a w → Keeps S a (w.setCells F k vs)
  | [], w, k, h => h
  | v :: vs, w, k, h => keeps_setCells hF vs (w.setCell ⟨F, k, none⟩ v) (k + 1) (h.setCell_new hF v)
/-- Names in a row. -/
structure Names (w : World) (A n : Nat) (names : List (List UInt8)) : Prop where
  lt : A < w.heap.size
  at_ : ∀ i, i < n → w.cell? ⟨A, i, none⟩ = some (.string ⟨(names.getD i []).toArray⟩)
theorem Names.keeps {w w' : World} {A n S : Nat} {names : List (List UInt8)} (h : Names w A n names) (hk : Keeps S w w') (hn : A ≠ S) : Names w' A n names :=
  ⟨Nat.lt_of_lt_of_le h.lt hk.size, fun i hi => (hk.cell (p := ⟨A, i, none⟩) h.lt hn).trans (h.at_ i hi)⟩
theorem Names.grown {w w' : World} {A n : Nat} {names : List (List UInt8)} {row : Option Nat} (h : Names w A n names) (hg : w.grownBy w' row) (hn : row ≠ some A) : Names w' A n names :=
  ⟨Nat.lt_of_lt_of_le h.lt hg.size, fun i hi => (World.cell?_of_block (a := ⟨A, i, none⟩) (hg.block A h.lt (fun e => hn e.symm))).trans (h.at_ i hi)⟩
theorem Names.set {w : World} {A n : Nat} {names : List (List UInt8)} (h : Names w A n names) {B o : Nat} (hn : B ≠ A) (u : Value) : Names (w.setCell ⟨B, o, none⟩ u) A n names :=
  ⟨by simpa using h.lt, fun i hi => (World.cell?_setCell_other _ _ _ _ (ne_blk hn)).trans (h.at_ i hi)⟩
theorem names_new (W : World) (names : List (List UInt8)) (cs : Array Value) (hcs : cs.toList = names.map fun s => Value.string ⟨s.toArray⟩) (n : Nat) (hn : n = names.length) : Names (W.alloc (.cells cs 9)) W.heap.size n names := by
  subst hn
  have hcs' : cs = (names.map fun s => Value.string ⟨s.toArray⟩).toArray := by rw [← hcs]
  subst hcs'
  exact ⟨by simp, fun i hi => (new_cell W _ 9 (0, 0) i).trans (by simp [hi])⟩
theorem wp_skip {P : Program} {o : Oper} {a : Act} {w w' : World} {K : Act → World → Prop} {Q : Exit → Act → World → Prop} (h : (execOp a.eval o).run P w = .ok .skip w') (hK : K (a.put o.dst undef) w') : o.wp P a w K Q := by
  unfold Oper.wp
  rw [h]
  exact hK
theorem wp_append_own_at {P : Program} {w : World} {o : Oper} {a : Act} {K : Act → World → Prop} {Q : Exit → Act → World → Prop} (s x : Operand) (t : TypeId)
    (ho : o.op = .call { callee := .builtin .append, args := #[s, x], argTypes := #[t, t] })
    (base : Nat) (e : TypeId) (i : TypeInfo) (z : Value) (size bytes : Nat) (ht : P.underlying t = some (.slice e)) (hi : P.info? e = some i) (hz : i.zero = some z)
    (hsize : i.size = size) (hby : i.bytes = bytes) (hzs : z.cells.size = size) (hsz : 0 < size)
    (v : Value) (n : Nat) (xs : List Value) (hs : a.eval s = v) (hown : w.ownsRow base e size v n xs)
    (ad : Addr) (m c : Nat) (news : List Value) (hx : a.eval x = .slice (some ad) m c) (hl : news.length = m * size) (hnews : ∀ j u, news[j]? = some u → w.cell? (ad.add j) = some u) (h1 : ∀ u ∈ news, u.oneCell' = true)
    (h63 : n + m ≤ maxLen) (hbytes : (n + m) * bytes ≤ 140737488355328) (hbase : base ≤ w.heap.size)
    (h : ∀ v' w', w'.ownsRow base e size v' (n + m) (xs ++ news) → w.grownBy w' v.ownBlock → (v'.ownBlock = v.ownBlock ∨ v'.ownBlock = some w.heap.size) → K (a.put o.dst v') w') : o.wp P a w K Q := by
  obtain ⟨v', w', hr, k1, k2, _, k3⟩ := run_append_own_at (P := P) w base t o.type e i z size bytes ht hi hz hsize hby hzs hsz v n xs hown ad m c news hl hnews h1 h63 hbytes hbase
  unfold Oper.wp execOp
  simp only [ho, resolve, invoke, builtin, Sem.run_bind, Sem.run_pure, Result.andThen_ok, List.map_toArray, List.map_cons, List.map_nil, hs, hx, hr]
  exact h v' w' k1 k2 k3
/-- A deck in a box of its own. -/
structure DBox (w : World) (D : Nat) (f s l st : Int) (v : Value) : Prop where
  lt : D < w.heap.size
  c0 : w.cell? ⟨D, 0, none⟩ = some (.int .i64 f)
  c1 : w.cell? ⟨D, 1, none⟩ = some (.int .i64 s)
  c2 : w.cell? ⟨D, 2, none⟩ = some (.int .i64 l)
  c3 : w.cell? ⟨D, 3, none⟩ = some (.int .i64 st)
  c4 : w.cell? ⟨D, 4, none⟩ = some v
  fr : ∀ j, w.frozen? ⟨D, j, none⟩ = false
theorem DBox.keeps {w w' : World} {D S : Nat} {f s l st : Int} {v : Value} (h : DBox w D f s l st v) (hk : Keeps S w w') (hn : D ≠ S) : DBox w' D f s l st v :=
  ⟨Nat.lt_of_lt_of_le h.lt hk.size, (hk.cell (p := ⟨D, 0, none⟩) h.lt hn).trans h.c0, (hk.cell (p := ⟨D, 1, none⟩) h.lt hn).trans h.c1, (hk.cell (p := ⟨D, 2, none⟩) h.lt hn).trans h.c2, (hk.cell (p := ⟨D, 3, none⟩) h.lt hn).trans h.c3, (hk.cell (p := ⟨D, 4, none⟩) h.lt hn).trans h.c4, fun j => (hk.frozen (p := ⟨D, j, none⟩) h.lt hn).trans (h.fr j)⟩
theorem DBox.grown {w w' : World} {D : Nat} {f s l st : Int} {v : Value} {row : Option Nat} (h : DBox w D f s l st v) (hg : w.grownBy w' row) (hn : row ≠ some D) : DBox w' D f s l st v := by
  have hb := hg.block D h.lt (fun e => hn e.symm)
  exact ⟨Nat.lt_of_lt_of_le h.lt hg.size, (World.cell?_of_block (a := ⟨D, 0, none⟩) hb).trans h.c0, (World.cell?_of_block (a := ⟨D, 1, none⟩) hb).trans h.c1, (World.cell?_of_block (a := ⟨D, 2, none⟩) hb).trans h.c2, (World.cell?_of_block (a := ⟨D, 3, none⟩) hb).trans h.c3, (World.cell?_of_block (a := ⟨D, 4, none⟩) hb).trans h.c4, fun j => (World.frozen?_of_block (a := ⟨D, j, none⟩) hb).trans (h.fr j)⟩
theorem DBox.far {w : World} {D : Nat} {f s l st : Int} {v : Value} (h : DBox w D f s l st v) {B o : Nat} (hn : B ≠ D) (u : Value) : DBox (w.setCell ⟨B, o, none⟩ u) D f s l st v :=
  ⟨by simpa using h.lt, (World.cell?_setCell_other _ _ _ _ (ne_blk hn)).trans h.c0, (World.cell?_setCell_other _ _ _ _ (ne_blk hn)).trans h.c1, (World.cell?_setCell_other _ _ _ _ (ne_blk hn)).trans h.c2, (World.cell?_setCell_other _ _ _ _ (ne_blk hn)).trans h.c3, (World.cell?_setCell_other _ _ _ _ (ne_blk hn)).trans h.c4, fun j => (World.frozen?_setCell _ _ _ _).trans (h.fr j)⟩
theorem DBox.s0 {w : World} {D : Nat} {f s l st : Int} {v : Value} (h : DBox w D f s l st v) (z : Int) : DBox (w.setCell ⟨D, 0, none⟩ (.int .i64 z)) D z s l st v :=
  ⟨by simpa using h.lt, World.cell?_setCell_same _ _ _ h.c0, (World.cell?_setCell_other _ _ _ _ (ne_off (by decide))).trans h.c1, (World.cell?_setCell_other _ _ _ _ (ne_off (by decide))).trans h.c2, (World.cell?_setCell_other _ _ _ _ (ne_off (by decide))).trans h.c3, (World.cell?_setCell_other _ _ _ _ (ne_off (by decide))).trans h.c4, fun j => (World.frozen?_setCell _ _ _ _).trans (h.fr j)⟩
theorem DBox.s1 {w : World} {D : Nat} {f s l st : Int} {v : Value} (h : DBox w D f s l st v) (z : Int) : DBox (w.setCell ⟨D, 1, none⟩ (.int .i64 z)) D f z l st v :=
  ⟨by simpa using h.lt, (World.cell?_setCell_other _ _ _ _ (ne_off (by decide))).trans h.c0, World.cell?_setCell_same _ _ _ h.c1, (World.cell?_setCell_other _ _ _ _ (ne_off (by decide))).trans h.c2, (World.cell?_setCell_other _ _ _ _ (ne_off (by decide))).trans h.c3, (World.cell?_setCell_other _ _ _ _ (ne_off (by decide))).trans h.c4, fun j => (World.frozen?_setCell _ _ _ _).trans (h.fr j)⟩
theorem DBox.s2 {w : World} {D : Nat} {f s l st : Int} {v : Value} (h : DBox w D f s l st v) (z : Int) : DBox (w.setCell ⟨D, 2, none⟩ (.int .i64 z)) D f s z st v :=
  ⟨by simpa using h.lt, (World.cell?_setCell_other _ _ _ _ (ne_off (by decide))).trans h.c0, (World.cell?_setCell_other _ _ _ _ (ne_off (by decide))).trans h.c1, World.cell?_setCell_same _ _ _ h.c2, (World.cell?_setCell_other _ _ _ _ (ne_off (by decide))).trans h.c3, (World.cell?_setCell_other _ _ _ _ (ne_off (by decide))).trans h.c4, fun j => (World.frozen?_setCell _ _ _ _).trans (h.fr j)⟩
theorem DBox.s3 {w : World} {D : Nat} {f s l st : Int} {v : Value} (h : DBox w D f s l st v) (z : Int) : DBox (w.setCell ⟨D, 3, none⟩ (.int .i64 z)) D f s l z v :=
  ⟨by simpa using h.lt, (World.cell?_setCell_other _ _ _ _ (ne_off (by decide))).trans h.c0, (World.cell?_setCell_other _ _ _ _ (ne_off (by decide))).trans h.c1, (World.cell?_setCell_other _ _ _ _ (ne_off (by decide))).trans h.c2, World.cell?_setCell_same _ _ _ h.c3, (World.cell?_setCell_other _ _ _ _ (ne_off (by decide))).trans h.c4, fun j => (World.frozen?_setCell _ _ _ _).trans (h.fr j)⟩
theorem DBox.s4 {w : World} {D : Nat} {f s l st : Int} {v : Value} (h : DBox w D f s l st v) (u : Value) : DBox (w.setCell ⟨D, 4, none⟩ u) D f s l st u :=
  ⟨by simpa using h.lt, (World.cell?_setCell_other _ _ _ _ (ne_off (by decide))).trans h.c0, (World.cell?_setCell_other _ _ _ _ (ne_off (by decide))).trans h.c1, (World.cell?_setCell_other _ _ _ _ (ne_off (by decide))).trans h.c2, (World.cell?_setCell_other _ _ _ _ (ne_off (by decide))).trans h.c3, World.cell?_setCell_same _ _ _ h.c4, fun j => (World.frozen?_setCell _ _ _ _).trans (h.fr j)⟩
theorem rcells_snoc (l : List Rate) (r : Rate) : ((l ++ [r]).map Rate.cells).flatten = (l.map Rate.cells).flatten ++ Rate.cells r := by simp
def RatesIn (l : List Rate) : Prop := ∀ r ∈ l, r.p.length ≤ 100 ∧ -2000000000000 ≤ r.price ∧ r.price ≤ 2000000000000
theorem rates_snoc {l : List Rate} {r : Rate} (h : RatesIn l) (h1 : r.p.length ≤ 100) (h2 : -2000000000000 ≤ r.price) (h3 : r.price ≤ 2000000000000) : RatesIn (l ++ [r]) := fun x hx => by
  rcases List.mem_append.1 hx with hx | hx
  · exact h x hx
  · rw [List.mem_singleton.1 hx]; exact ⟨h1, h2, h3⟩
theorem Tryz.infoRate : (Tryz.prog.info? 120).map (fun i => (i.zero, i.size, i.bytes)) = some (some (.agg #[.string ⟨#[]⟩, .int .i64 0, .bool false]), 3, 32) := by kernel_rfl
theorem Tryz.deckSize : (Tryz.prog.info? 63).map (·.size) = some 5 := by kernel_rfl
/-- What a right deck of a stream comes to. -/
def RDeckPost (S k : Nat) (w : World) (e : Ending) (w' : World) : Prop :=
  ∃ d : Deck, e = .returned (.agg d.cells.toArray) ∧ DeckOwn w.heap.size w' d ∧ d.rates.length ≤ 13 ∧ StreamOk w' S k ∧ Keeps S w w'
theorem bs_r1 (e : Operand → Value) (o : Oper) (w : World) (i0 : Nat) (p : ByteArray) (z : Int) (b : Bool) (ho : o.op = .buildSlice 61 1 #[(0, .tmp i0)]) (h0 : e (.tmp i0) = .agg #[.string p, .int .i64 z, .bool b]) :
   (execOp e o).run Tryz.prog w = .ok (.value (.slice (some ⟨w.heap.size, 0, none⟩) 1 1)) (w.alloc (.cells #[.string p, .int .i64 z, .bool b] 120)) := by
  unfold execOp
  rw [ho]
  simp only [List.map_toArray, List.map_cons, List.map_nil, h0]
  kernel_rfl
theorem bs_i4 (e : Operand → Value) (he : ∀ v, e (.const v) = v) (o : Oper) (w : World) (z0 z1 z2 z3 : Int) (ho : o.op = .buildSlice 22 4 #[(0, .const (.int .i64 z0)), (1, .const (.int .i64 z1)), (2, .const (.int .i64 z2)), (3, .const (.int .i64 z3))]) :
   (execOp e o).run Tryz.prog w = .ok (.value (.slice (some ⟨w.heap.size, 0, none⟩) 4 4)) (w.alloc (.cells #[.int .i64 z0, .int .i64 z1, .int .i64 z2, .int .i64 z3] 3)) := by
  unfold execOp
  rw [ho]
  simp only [List.map_toArray, List.map_cons, List.map_nil, he]
  kernel_rfl
theorem bs_i3 (e : Operand → Value) (he : ∀ v, e (.const v) = v) (o : Oper) (w : World) (z0 z1 z2 : Int) (ho : o.op = .buildSlice 22 3 #[(0, .const (.int .i64 z0)), (1, .const (.int .i64 z1)), (2, .const (.int .i64 z2))]) :
   (execOp e o).run Tryz.prog w = .ok (.value (.slice (some ⟨w.heap.size, 0, none⟩) 3 3)) (w.alloc (.cells #[.int .i64 z0, .int .i64 z1, .int .i64 z2] 3)) := by
  unfold execOp
  rw [ho]
  simp only [List.map_toArray, List.map_cons, List.map_nil, he]
  kernel_rfl
theorem bs_i5 (e : Operand → Value) (he : ∀ v, e (.const v) = v) (o : Oper) (w : World) (z0 z1 z2 z3 z4 : Int) (ho : o.op = .buildSlice 22 5 #[(0, .const (.int .i64 z0)), (1, .const (.int .i64 z1)), (2, .const (.int .i64 z2)), (3, .const (.int .i64 z3)), (4, .const (.int .i64 z4))]) :
   (execOp e o).run Tryz.prog w = .ok (.value (.slice (some ⟨w.heap.size, 0, none⟩) 5 5)) (w.alloc (.cells #[.int .i64 z0, .int .i64 z1, .int .i64 z2, .int .i64 z3, .int .i64 z4] 3)) := by
  unfold execOp
  rw [ho]
  simp only [List.map_toArray, List.map_cons, List.map_nil, he]
  kernel_rfl
theorem bs_i2 (e : Operand → Value) (he : ∀ v, e (.const v) = v) (o : Oper) (w : World) (z0 z1 : Int) (ho : o.op = .buildSlice 22 2 #[(0, .const (.int .i64 z0)), (1, .const (.int .i64 z1))]) :
   (execOp e o).run Tryz.prog w = .ok (.value (.slice (some ⟨w.heap.size, 0, none⟩) 2 2)) (w.alloc (.cells #[.int .i64 z0, .int .i64 z1] 3)) := by
  unfold execOp
  rw [ho]
  simp only [List.map_toArray, List.map_cons, List.map_nil, he]
  kernel_rfl
theorem bs_s13 (e : Operand → Value) (he : ∀ v, e (.const v) = v) (o : Oper) (w : World)  (p0 p1 p2 p3 p4 p5 p6 p7 p8 p9 p10 p11 p12 : ByteArray) (ho : o.op = .buildSlice 121 13 #[(0, .const (.string p0)), (1, .const (.string p1)), (2, .const (.string p2)), (3, .const (.string p3)), (4, .const (.string p4)), (5, .const (.string p5)), (6, .const (.string p6)), (7, .const (.string p7)), (8, .const (.string p8)), (9, .const (.string p9)), (10, .const (.string p10)), (11, .const (.string p11)), (12, .const (.string p12))])  :
   (execOp e o).run Tryz.prog w = .ok (.value (.slice (some ⟨w.heap.size, 0, none⟩) 13 13)) (w.alloc (.cells #[.string p0, .string p1, .string p2, .string p3, .string p4, .string p5, .string p6, .string p7, .string p8, .string p9, .string p10, .string p11, .string p12] 9)) := by
  unfold execOp
  rw [ho]
  simp only [List.map_toArray, List.map_cons, List.map_nil, he]
  kernel_rfl
theorem bs_s12 (e : Operand → Value) (he : ∀ v, e (.const v) = v) (o : Oper) (w : World)  (p0 p1 p2 p3 p4 p5 p6 p7 p8 p9 p10 p11 : ByteArray) (ho : o.op = .buildSlice 121 12 #[(0, .const (.string p0)), (1, .const (.string p1)), (2, .const (.string p2)), (3, .const (.string p3)), (4, .const (.string p4)), (5, .const (.string p5)), (6, .const (.string p6)), (7, .const (.string p7)), (8, .const (.string p8)), (9, .const (.string p9)), (10, .const (.string p10)), (11, .const (.string p11))])  :
   (execOp e o).run Tryz.prog w = .ok (.value (.slice (some ⟨w.heap.size, 0, none⟩) 12 12)) (w.alloc (.cells #[.string p0, .string p1, .string p2, .string p3, .string p4, .string p5, .string p6, .string p7, .string p8, .string p9, .string p10, .string p11] 9)) := by
  unfold execOp
  rw [ho]
  simp only [List.map_toArray, List.map_cons, List.map_nil, he]
  kernel_rfl
theorem bs_s5r (e : Operand → Value) (he : ∀ v, e (.const v) = v) (o : Oper) (w : World) (i4 : Nat) (p0 p1 p2 p3 p4 : ByteArray) (ho : o.op = .buildSlice 121 5 #[(0, .const (.string p0)), (1, .const (.string p1)), (2, .const (.string p2)), (3, .const (.string p3)), (4, .tmp i4)]) (h4 : e (.tmp i4) = .string p4) :
   (execOp e o).run Tryz.prog w = .ok (.value (.slice (some ⟨w.heap.size, 0, none⟩) 5 5)) (w.alloc (.cells #[.string p0, .string p1, .string p2, .string p3, .string p4] 9)) := by
  unfold execOp
  rw [ho]
  simp only [List.map_toArray, List.map_cons, List.map_nil, he, h4]
  kernel_rfl
end Go.Proofs.YtppinnjdaoaddaaGreatDoor

set_option linter.unusedVariables false
set_option linter.unusedSimpArgs false
namespace Go.Proofs.YtppinnjdaoaddaaGreatDoor
open Go.RowKit

theorem flat_set {α : Type} (f : α → List Value) (k : Nat) (hk : ∀ x, (f x).length = k) : ∀ (l : List α) (r j : Nat) (d y : α) (v : Value), r < l.length → j < k → f y = (f (l.getD r d)).set j v → ((l.set r y).map f).flatten = ((l.map f).flatten).set (r * k + j) v
  | c :: cs, 0, j, d, y, v, _, hj, hy => by
    have hy' : f y = (f c).set j v := hy
    simp only [List.set_cons_zero, List.map_cons, List.flatten_cons, Nat.zero_mul, Nat.zero_add]
    rw [hy', List.set_append_left _ _ (by rw [hk]; exact hj)]
  | c :: cs, r + 1, j, d, y, v, hr, hj, hy => by
    have ih := flat_set f k hk cs r j d y v (by simpa using hr) hj (by simpa using hy)
    have e : (r + 1) * k = r * k + k := Nat.succ_mul r k
    simp only [List.set_cons_succ, List.map_cons, List.flatten_cons]
    rw [List.set_append_right _ _ (by rw [hk]; omega), hk, show (r + 1) * k + j - k = r * k + j by omega, ih]
/-- Field j of element r is written. -/
theorem own_put1 {α : Type} (f : α → List Value) {k : Nat} (hk : ∀ x, (f x).length = k) {w : World} {base g n cap : Nat} {e : TypeId} {l : List α} (h : w.ownsRow base e k (.slice (some ⟨g, 0, none⟩) n cap) n ((l.map f).flatten)) (r j : Nat) (d y : α) (v : Value) (hr : r < l.length) (hj : j < k) (hy : f y = (f (l.getD r d)).set j v) :
    (w.setCell ⟨g, r * k + j, none⟩ v).ownsRow base e k (.slice (some ⟨g, 0, none⟩) n cap) n (((l.set r y).map f).flatten) := by
  rw [flat_set f k hk l r j d y v hr hj hy]
  exact (h.stored _ _).1
theorem flat_atF {α : Type} (f : α → List Value) (k : Nat) (hk : ∀ x, (f x).length = k) : ∀ (l : List α) (r j : Nat) (d : α), r < l.length → j < k → ((l.map f).flatten)[r * k + j]? = (f (l.getD r d))[j]?
  | c :: cs, 0, j, d, _, hj => by
    simp only [List.map_cons, List.flatten_cons, Nat.zero_mul, Nat.zero_add]
    rw [List.getElem?_append_left (by rw [hk]; exact hj)]
    rfl
  | c :: cs, r + 1, j, d, hr, hj => by
    have ih := flat_atF f k hk cs r j d (by simpa using hr) hj
    have e : (r + 1) * k = r * k + k := Nat.succ_mul r k
    simp only [List.map_cons, List.flatten_cons]
    rw [List.getElem?_append_right (by rw [hk]; omega), hk, show (r + 1) * k + j - k = r * k + j by omega, ih]
    simp
theorem flat_length {α : Type} (f : α → List Value) (k : Nat) (hk : ∀ x, (f x).length = k) (l : List α) : ((l.map f).flatten).length = l.length * k := by
  induction l with
  | nil => simp
  | cons c cs ih => simp only [List.map_cons, List.flatten_cons, List.length_append, List.length_cons, ih, hk, Nat.succ_mul]; omega
/-- Field j of element r. -/
theorem own_field {α : Type} (f : α → List Value) {k : Nat} (hk : ∀ x, (f x).length = k) {w : World} {base g n cap : Nat} {e : TypeId} {l : List α} (h : w.ownsRow base e k (.slice (some ⟨g, 0, none⟩) n cap) n ((l.map f).flatten)) (r j : Nat) (d : α) {v : Value} (hr : r < l.length) (hj : j < k) (hv : (f (l.getD r d))[j]? = some v) : w.cell? ⟨g, r * k + j, none⟩ = some v := by
  have hlt : r * k + j < ((l.map f).flatten).length := by
    rw [flat_length f k hk]
    have : (r + 1) * k ≤ l.length * k := Nat.mul_le_mul_right k hr
    rw [Nat.succ_mul] at this
    omega
  have hl := h.1
  have := h.cellAt (r * k + j) (by omega)
  rw [flat_atF f k hk l r j d hr hj, hv] at this
  exact this
theorem own_soft1 {w : World} {base g n c : Nat} {ty : TypeId} {sz : Nat} {xs : List Value} (h : w.ownsRow base ty sz (.slice (some ⟨g, 0, none⟩) n c) n xs) (j : Nat) : w.frozen? ⟨g, j, none⟩ = false := h.frozenAt j
theorem own_pos {w : World} {base : Nat} {e : TypeId} {size : Nat} {a : Option Addr} {m c n : Nat} {xs : List Value} (h : w.ownsRow base e size (.slice a m c) n xs) (hn : 0 < n) : ∃ g, a = some ⟨g, 0, none⟩ ∧ base ≤ g ∧ g < w.heap.size := by
  rcases h.2 with ⟨_, h0⟩ | ⟨g, cap, cur, e1, h2, h3, _⟩
  · omega
  · injection e1 with e1 e2 e3
    exact ⟨g, e1, h2, (Array.getElem?_eq_some_iff.1 h3).1⟩
end Go.Proofs.YtppinnjdaoaddaaGreatDoor

namespace Go.Proofs.YtppinnjdaoaddaaGreatDoor
open Go.RowKit

section
variable {P : Program} {ops : Array Oper} {Q : Exit → Act → World → Prop}

/-- What is to be shown of an operation: it may look at what it waits for, and at what was there. A call hands out at most W numbers. -/
def LateOp (P : Program) (ops : Array Oper) (Q : Exit → Act → World → Prop) (a0 : Act) (S k W : Nat) (w0 : World) (specs : List Spec) (calls : List Nat) (i : Nat) (o : Oper) (s : Spec) : Prop :=
  ∀ (a : Act) (w : World) (c : Nat), Keeps S w0 w → StreamOk w S (k + W * c) → c + (if calls.contains i then 1 else 0) ≤ calls.length →
    (∀ t, ((ops.extract 0 specs.length).all fun o => o.dst != some t) = true → a.eval (.tmp t) = a0.eval (.tmp t)) →
    (∀ (j : Nat) (t : Tmp) (s' : Spec), (o.after.any fun e => Region.binds .any e && e.on == j) = true → dstOf ops j = some t → specs[j]? = some s' → s'.holds S w (a.eval (.tmp t))) →
    ∀ K : Act → World → Prop, (∀ v w', s.holds S w' v → Keeps S w w' → StreamOk w' S (k + W * (c + if calls.contains i then 1 else 0)) → K (a.put o.dst v) w') → Oper.wp P o a w K Q
def LateOps (P : Program) (ops : Array Oper) (Q : Exit → Act → World → Prop) (a0 : Act) (S k W : Nat) (w0 : World) (specs : List Spec) (calls : List Nat) : Nat → List Oper → List Spec → Prop
  | i, o :: os, s :: ss => LateOp P ops Q a0 S k W w0 specs calls i o s ∧ LateOps P ops Q a0 S k W w0 specs calls (i + 1) os ss
  | _, _, _ => True
theorem lateOps_at {a0 : Act} {S k W : Nat} {w0 : World} {specs : List Spec} {calls : List Nat} : ∀ (i : Nat) (os : List Oper) (ss : List Spec), LateOps P ops Q a0 S k W w0 specs calls i os ss → ∀ (j : Nat) (o : Oper) (s : Spec), os[j]? = some o → ss[j]? = some s → LateOp P ops Q a0 S k W w0 specs calls (i + j) o s
  | i, o :: os, s :: ss, h, 0, _, _, ho, hs => by simp at ho hs; subst ho; subst hs; exact h.1
  | i, o :: os, s :: ss, h, j + 1, o', s', ho, hs => by
    have := lateOps_at (i + 1) os ss h.2 j o' s' (by simpa using ho) (by simpa using hs)
    rw [show i + (j + 1) = i + 1 + j by omega]; exact this
  | i, [], _, _, j, _, _, ho, _ => by simp at ho
  | i, _ :: _, [], _, j, _, _, _, hs => by simp at hs

/-- Operation m waits, through others, for all ahead of it but number d: each of those is waited for by one behind it, up to m, that is not d. -/
def lateChk (ops : Array Oper) (m d : Nat) : Bool :=
  ((List.range m).all fun i => i == d || (List.range (m + 1)).any fun k => decide (i < k) && k != d && ((ops[k]?).map fun o => o.after.any fun e => Region.binds .any e && e.on == i).getD false) && decide (d < m)

theorem late_listed {m d : Nat} (hc : lateChk ops m d = true) {l : Array Bool} (hl : l.size = m + 1) (hcl : ClosedL ops l) {om : Oper} (hom : ops[m]? = some om) (hall : ∀ e ∈ om.after, Region.binds .any e = true → l.getD e.on false = true) : ∀ i, i < m → i ≠ d → l.getD i true = true := by
  simp only [lateChk, Bool.and_eq_true, List.all_eq_true, List.any_eq_true, List.mem_range, decide_eq_true_eq, Bool.or_eq_true, beq_iff_eq, bne_iff_ne] at hc
  have main : ∀ n i, i < m → i ≠ d → m - i ≤ n → l.getD i false = true := by
    intro n
    induction n with
    | zero => intro i hi _ h; omega
    | succ n ih =>
      intro i hi hne h
      obtain ⟨k, hk, ⟨hik, hkd⟩, hk2⟩ := (hc.1 i hi).resolve_left hne
      cases ho : ops[k]? with
      | none => simp [ho] at hk2
      | some o =>
        simp only [ho, Option.map_some, Option.getD_some] at hk2
        obtain ⟨e, he, hb⟩ := Array.any_eq_true'.1 hk2
        simp only [Bool.and_eq_true, beq_iff_eq] at hb
        rcases Nat.lt_or_ge k m with hkm | hkm
        · rw [← hb.2]; exact hcl k o ho (ih k hkm hkd (by omega)) e he hb.1
        · obtain rfl : k = m := by omega
          rw [hom] at ho; cases ho
          rw [← hb.2]; exact hall e he hb.1
  intro i hi hne
  rw [getD_two (by omega) true false]
  exact main (m - i) i hi hne (Nat.le_refl _)

/-- Operation m waits, through others, for all ahead of it. -/
def lateAll (ops : Array Oper) (m : Nat) : Bool :=
  (List.range m).all fun i => (List.range (m + 1)).any fun k => decide (i < k) && ((ops[k]?).map fun o => o.after.any fun e => Region.binds .any e && e.on == i).getD false
theorem allW_listed {m : Nat} (hc : lateAll ops m = true) {l : Array Bool} (hl : l.size = m + 1) (hcl : ClosedL ops l) {om : Oper} (hom : ops[m]? = some om) (hall : ∀ e ∈ om.after, Region.binds .any e = true → l.getD e.on false = true) : ∀ i, i < m → l.getD i true = true := by
  simp only [lateAll, Bool.and_eq_true, List.all_eq_true, List.any_eq_true, List.mem_range, decide_eq_true_eq] at hc
  have main : ∀ n i, i < m → m - i ≤ n → l.getD i false = true := by
    intro n
    induction n with
    | zero => intro i hi h; omega
    | succ n ih =>
      intro i hi h
      obtain ⟨k, hk, hik, hk2⟩ := hc i hi
      cases ho : ops[k]? with
      | none => simp [ho] at hk2
      | some o =>
        simp only [ho, Option.map_some, Option.getD_some] at hk2
        obtain ⟨e, he, hb⟩ := Array.any_eq_true'.1 hk2
        simp only [Bool.and_eq_true, beq_iff_eq] at hb
        rcases Nat.lt_or_ge k m with hkm | hkm
        · rw [← hb.2]; exact hcl k o ho (ih k hkm (by omega)) e he hb.1
        · obtain rfl : k = m := by omega
          rw [hom] at ho; cases ho
          rw [← hb.2]; exact hall e he hb.1
  intro i hi
  rw [getD_two (by omega) true false]
  exact main (m - i) i hi (Nat.le_refl _)

theorem gen_late {m d W : Nat} {a0 : Act} {S k : Nat} {w0 : World} {specs : List Spec} {calls : List Nat} {st od : Oper} (hsz : ops.size = m + 1) (hc : genChk ops a0.tmps.size m calls = true) (hlen : specs.length = m) (hst : ops[m]? = some st) (hsg : st.guard = none) (hod : ops[d]? = some od) (hlate : lateChk ops m d = true) (hdc : d ∉ calls)
    (hdown : ∀ i, i < m + 1 → ∃ o, ops[i]? = some o ∧ ∀ e ∈ o.after, Region.binds .any e = true → e.on < i)
    (hstep : ∀ i o s, i < m → ops[i]? = some o → specs[i]? = some s → LateOp P ops Q a0 S k W w0 specs calls i o s)
    (hA : ∀ (vals : Nat → Value) (w : World), Keeps S w0 w → StreamOk w S (k + W * calls.length) → (∀ (i : Nat) (s : Spec), specs[i]? = some s → s.holds S w (vals i)) → lastQ P st Q .normal (putSome ops vals (fun _ => true) (List.range m) a0) w)
    (hB : lateAll ops m = false → ∀ (vals : Nat → Value) (w : World), Keeps S w0 w → StreamOk w S (k + W * calls.length) → (∀ (i : Nat) (s : Spec), i ≠ d → specs[i]? = some s → s.holds S w (vals i)) → lastQ P st (lastQ P od Q) .normal (putSome ops vals (fun i => i != d) (List.range m) a0) w) :
    ∀ (fuel : Nat) (l : Array Bool) (vals : Nat → Value) (w : World), l.size = m + 1 → l.getD m true = false → ClosedL ops l → Keeps S w0 w → StreamOk w S (k + W * calls.countP (fun i => l.getD i true)) → (∀ (i : Nat) (s : Spec), l.getD i true = true → specs[i]? = some s → s.holds S w (vals i)) → (l.toList.countP (fun b => !b) ≤ fuel) →
      wpAny P .any ops Q fuel l (putSome ops vals (fun i => l.getD i true) (List.range m) a0) w := by
  simp only [genChk, Bool.and_eq_true, List.all_eq_true, List.mem_range, decide_eq_true_eq, Bool.or_eq_true, beq_iff_eq] at hc
  obtain ⟨⟨⟨⟨⟨hdst, hgd⟩, hmn⟩, h1n⟩, hnd⟩, hcm⟩ := hc
  have hdm : d < m := by
    simp only [lateChk, Bool.and_eq_true, decide_eq_true_eq] at hlate
    exact hlate.2
  have dlt' : ∀ i t, dstOf ops i = some t → i < ops.size := by
    intro i t h
    rcases Nat.lt_or_ge i ops.size with h' | h'
    · exact h'
    · unfold dstOf at h; rw [Array.getElem?_eq_none h'] at h; cases h
  have dne : ∀ i j, i ≠ j → ∀ t, dstOf ops j = some t → dstOf ops i ≠ some t := by
    intro i j hij t hj hi
    have := (hdst i (dlt' i t hi) j (dlt' j t hj)).resolve_left hij
    simp [hi, hj] at this
  have dlt : ∀ i t, dstOf ops i = some t → t < a0.tmps.size := by
    intro i t hi
    have hj : ∃ j, j < ops.size ∧ i ≠ j := if h : i = 0 then ⟨1, by omega, by omega⟩ else ⟨0, by omega, h⟩
    obtain ⟨j, hj, hij⟩ := hj
    have := (hdst i (dlt' i t hi) j hj).resolve_left hij
    simp [hi] at this
    exact this.1
  have cntAll : ∀ l : Array Bool, (∀ i, i < m → i ≠ d → l.getD i true = true) → calls.countP (fun i => l.getD i true) = calls.length := fun l h => List.countP_eq_length.2 (fun i hi => h i (by simpa using hcm i hi) (fun e => hdc (e ▸ hi)))
  intro fuel
  induction fuel with
  | zero =>
    intro l vals w hl hlm hcl hk hstm hs hf
    exfalso
    have : 0 < l.toList.countP (fun b => !b) := List.countP_pos_iff.2 ⟨false, by
      have hlt : m < l.size := by omega
      have : l[m] = false := by simpa [hlt] using hlm
      rw [← this]; simp, rfl⟩
    omega
  | succ fuel ih =>
    intro l vals w hl hlm hcl hk hstm hs hf
    have cntSet : ∀ i, i < l.size → l.getD i true = false → (l.setIfInBounds i true).toList.countP (fun b => !b) + 1 = l.toList.countP (fun b => !b) := by
      intro i hilt hun
      have hli : l[i] = false := by simpa [hilt] using hun
      have hpos : 0 < l.toList.countP (fun b => !b) := List.countP_pos_iff.2 ⟨false, by rw [← hli]; simp, rfl⟩
      have := List.countP_set (p := fun b : Bool => !b) (l := l.toList) (i := i) (a := true) (by simpa using hilt)
      have e4 : l.toList[i]'(by simpa using hilt) = false := by simpa using hli
      rw [Array.toList_setIfInBounds, this, e4]
      rw [if_pos (by decide : (!false) = true), if_neg (by decide : ¬ (!true) = true)]
      omega
    refine ⟨fun h0 => ?_, fun i hi => ?_⟩
    · exfalso
      have hall : ∀ i, i < m + 1 → l.getD i true = true := by
        intro i
        induction i using Nat.strongRecOn with
        | _ i ihi =>
          intro hi
          rcases Bool.eq_false_or_eq_true (l.getD i true) with h | h
          · exact h
          · exfalso
            obtain ⟨o, ho, hd⟩ := hdown i hi
            have : i ∈ Region.ready .any ops l := mem_ready.2 ⟨h, o, ho, fun e he hb => by rw [getD_two (by have := hd e he hb; omega) false true]; exact ihi e.on (hd e he hb) (by have := hd e he hb; omega)⟩
            rw [h0] at this; cases this
      rw [hall m (by omega)] at hlm; cases hlm
    · obtain ⟨hun, o, ho, hall⟩ := mem_ready.1 hi
      have hile : i ≤ m := by have := (Array.getElem?_eq_some_iff.1 ho).1; omega
      by_cases him : i = m
      · subst him
        rw [hst] at ho; cases ho
        have hothers := late_listed hlate hl hcl hst hall
        unfold wpOp
        simp only [hst]
        rw [if_pos (by simp [Region.wanted, hsg])]
        rw [cntAll l hothers] at hstm
        by_cases hdl : l.getD d true = true
        · have e1 : putSome ops vals (fun j => l.getD j true) (List.range i) a0 = putSome ops vals (fun _ => true) (List.range i) a0 := putSome_congr _ _ (fun j hj => ⟨by
            by_cases hjd : j = d
            · rw [hjd]; exact hdl
            · exact hothers j (List.mem_range.1 hj) hjd, fun _ => rfl⟩)
          rw [e1]
          refine (hA vals w hk hstm (fun j s h => hs j s ?_ h)).imp (Oper.wp_mono (fun a' w' h' => wpAny_done (ready_all hsz fun j hj => ?_) h' fuel)) id
          · by_cases hjd : j = d
            · rw [hjd]; exact hdl
            · exact hothers j (by have := (List.getElem?_eq_some_iff.1 h).1; omega) hjd
          · by_cases hji : j = i
            · subst hji; simp [hl]
            · rw [getD_set_ne true (Ne.symm hji)]
              by_cases hjd : j = d
              · rw [hjd]; exact hdl
              · exact hothers j (by omega) hjd
        · have hdf : l.getD d true = false := by simpa using hdl
          have hla : lateAll ops i = false := by
            rcases Bool.eq_false_or_eq_true (lateAll ops i) with h | h
            · exact absurd (allW_listed h hl hcl hst hall d hdm) (by rw [hdf]; decide)
            · exact h
          have e1 : putSome ops vals (fun j => l.getD j true) (List.range i) a0 = putSome ops vals (fun j => j != d) (List.range i) a0 := putSome_congr _ _ (fun j hj => ⟨by
            by_cases hjd : j = d
            · rw [hjd, hdf]; simp
            · rw [hothers j (List.mem_range.1 hj) hjd]; simp [hjd], fun _ => rfl⟩)
          rw [e1]
          have hf1 : 1 ≤ fuel := by
            have h1 := cntSet d (by omega) hdf
            have h2 : 0 < (l.setIfInBounds d true).toList.countP (fun b => !b) := List.countP_pos_iff.2 ⟨false, by
              have hlt : i < (l.setIfInBounds d true).size := by simp; omega
              have : (l.setIfInBounds d true)[i] = false := by
                have h3 : (l.setIfInBounds d true).getD i true = false := by rw [getD_set_ne true (by omega)]; exact hlm
                rw [Array.getD_eq_getD_getElem?, Array.getElem?_eq_getElem hlt] at h3
                exact h3
              rw [← this]; exact Array.getElem_mem_toList _, rfl⟩
            omega
          obtain ⟨fuel', rfl⟩ : ∃ f, fuel = f + 1 := ⟨fuel - 1, by omega⟩
          have hg : od.guard = none := by
            have hx := hgd d hdm
            simpa [hod] using hx
          have hset : ∀ j, j < i + 1 → j ≠ d → (l.setIfInBounds i true).getD j true = true := by
            intro j hj hjd
            by_cases hji : j = i
            · subst hji; simp [hl]
            · rw [getD_set_ne true (Ne.symm hji)]; exact hothers j (by omega) hjd
          rcases hB hla vals w hk hstm (fun j s hjd h => hs j s (hothers j (by have := (List.getElem?_eq_some_iff.1 h).1; omega) hjd) h) with hq | hq
          · refine Or.inl ?_
            have conv : Oper.wp P st (putSome ops vals (fun j => j != d) (List.range i) a0) w (fun a' w' => lastQ P od Q .normal a' w') Q := by
              unfold Oper.wp at *
              generalize (execOp (putSome ops vals (fun j => j != d) (List.range i) a0).eval st).run P w = r at *
              cases r with
              | ok n w' =>
                cases n <;> simp only [Oper.upon] at hq ⊢ <;>
                  first
                    | exact hq
                    | exact Calls.mono hq (fun e w'' he => by cases e <;> exact he)
                    | exact Rows.mono hq (fun _ _ he => he)
              | halt x w' => cases x <;> simp only [Oper.upon] at hq ⊢ <;> exact hq
            refine Oper.wp_mono (fun a' w' h' => ?_) conv
            refine ⟨fun h0 => ?_, fun j hj => ?_⟩
            · exfalso
              obtain ⟨o2, ho2, hd2⟩ := hdown d (by omega)
              have : d ∈ Region.ready .any ops (l.setIfInBounds i true) := mem_ready.2 ⟨by rw [getD_set_ne true (by omega)]; exact hdf, o2, ho2, fun e he hb => by
                have := hd2 e he hb
                rw [getD_two (by simp; omega) false true]
                exact hset _ (by omega) (by omega)⟩
              rw [h0] at this; cases this
            · obtain ⟨hun2, o2, ho2, _⟩ := mem_ready.1 hj
              have hjle : j < i + 1 := by have := (Array.getElem?_eq_some_iff.1 ho2).1; omega
              obtain rfl : j = d := by
                apply Classical.byContradiction
                intro hjd
                rw [hset j hjle hjd] at hun2; cases hun2
              unfold wpOp
              simp only [hod]
              rw [if_pos (by simp [Region.wanted, hg])]
              refine h'.imp (Oper.wp_mono (fun a'' w'' h'' => wpAny_done (ready_all hsz fun q hq => ?_) h'' fuel')) id
              by_cases hqd : q = j
              · subst hqd; simp [show q < l.size by omega]
              · rw [getD_set_ne true (Ne.symm hqd)]; exact hset q hq hqd
          · exact Or.inr ⟨hq.1, by
              obtain ⟨a1, w1, h2⟩ := hq.2
              exact ⟨a1, w1, lastQ_other h2 (by simp)⟩⟩
      · have him' : i < m := by omega
        have hilt : i < l.size := by omega
        obtain ⟨s, hsi⟩ : ∃ s, specs[i]? = some s := ⟨specs[i]'(by omega), by simp⟩
        have hguard : o.guard = none := by
          have hx := hgd i him'
          simpa [ho] using hx
        have hdo : dstOf ops i = o.dst := by simp [dstOf, ho]
        unfold wpOp
        simp only [ho]
        rw [if_pos (by simp [Region.wanted, hguard])]
        refine Or.inl ?_
        have hcnt := countP_set calls hnd (fun j => l.getD j true) i hun
        refine hstep i o s him' ho hsi _ w (calls.countP fun j => l.getD j true) hk hstm ?_ ?_ ?_ _ ?_
        · rw [← hcnt]; exact List.countP_le_length
        · intro t ht
          refine putSome_eval_other _ _ (fun j hj => ?_)
          intro hjt
          have hjm := List.mem_range.1 hj
          unfold dstOf at hjt
          cases hoj : ops[j]? with
          | none => rw [hoj] at hjt; cases hjt
          | some oj =>
            rw [hoj] at hjt
            have h9 : (ops.extract 0 specs.length)[j]? = some oj := by rw [ext_get _ _ _ (by omega)]; exact hoj
            have := Array.all_eq_true_iff_forall_mem.1 ht oj (Array.mem_of_getElem? h9)
            simp at this hjt
            exact this hjt
        · intro j t s' hj ht hs'
          obtain ⟨e, he, hb⟩ := Array.any_eq_true'.1 hj
          simp only [Bool.and_eq_true, beq_iff_eq] at hb
          obtain ⟨hb, rfl⟩ := hb
          have hlt : e.on < m := by have := (List.getElem?_eq_some_iff.1 hs').1; omega
          have hon' : l.getD e.on true = true := by rw [getD_two (by omega) true false]; exact hall e he hb
          rw [putSome_eval (i := e.on) _ _ List.nodup_range (List.mem_range.2 hlt) hon' ht (dlt _ _ ht) (fun j _ hj => fun h2 => dne e.on j (Ne.symm hj) t h2 ht)]
          exact hs e.on s' hon' hs'
        · intro v w' hv hkw hst'
          have e2 := putSome_set (ops := ops) (vals := vals) (listed := fun j => l.getD j true) (i := i) v (List.range m) a0 List.nodup_range (List.mem_range.2 him') hun (fun j _ hj t ht => dne i j (Ne.symm hj) t ht)
          have e3 : (fun j => if j = i then true else l.getD j true) = fun j => (l.setIfInBounds i true).getD j true := by
            funext j
            by_cases hji : j = i
            · subst hji; simp [hilt]
            · simp only [hji, if_false]; rw [getD_set_ne true (Ne.symm hji)]
          rw [← hdo, ← e2, e3]
          refine ih _ _ w' (by simpa using hl) (by rw [getD_set_ne true him]; exact hlm) (hcl.set hi) (hk.trans hkw) ?_ ?_ ?_
          · rw [← e3, hcnt]; exact hst'
          · intro j s' hj hs'
            by_cases hji : j = i
            · subst hji
              rw [hsi] at hs'; cases hs'
              simp only [if_true]; exact hv
            · simp only [hji, if_false]
              rw [getD_set_ne true (Ne.symm hji)] at hj
              exact (hs j s' hj hs').keeps hkw
          · have := cntSet i hilt hun
            omega

theorem tailQ_wp {k : Nat} {o : Oper} {a : Act} {w : World} {K : Act → World → Prop} (h : Oper.wp P o a w K Q) : Oper.wp P o a w K (tailQ P ops Q k) := by
  unfold Oper.wp at *
  generalize (execOp a.eval o).run P w = r at *
  cases r with
  | ok n w' =>
    cases n <;> simp only [Oper.upon] at h ⊢ <;>
      first
        | exact h
        | exact Calls.mono h (fun e w'' he => by cases e <;> exact he)
        | exact Rows.mono h (fun _ _ he => he)
  | halt x w' => cases x <;> simp only [Oper.upon] at h ⊢ <;> exact h

theorem toTail_of {L : List Oper} : ∀ (l : List Oper), (∀ o ∈ l, o.guard = none) → ∀ a w, wpList P L.toArray Q l a w → tailQ.wpTail P Q l a w := by
  intro l
  induction l with
  | nil => intro _ a w h; exact h
  | cons o l ih =>
    intro hg a w h
    unfold wpList at h
    rw [if_pos (by simp [Region.wanted, hg o List.mem_cons_self])] at h
    exact h.imp (Oper.wp_mono (fun a w h => ih (fun o ho => hg o (List.mem_cons_of_mem _ ho)) a w h)) (fun h => h)

theorem forVals_skip {S : Nat} {w : World} {K : Act → Prop} {vals : Nat → Value} {ops : Array Oper} {d : Nat} : ∀ (ss : List Spec) (i : Nat) (a : Act), ForVals S w K (((List.range' i ss.length).map (dstOf ops)).eraseIdx (d - i)) (ss.eraseIdx (d - i)) a → i ≤ d → d < i + ss.length → (∀ (j : Nat) (s : Spec), i + j ≠ d → ss[j]? = some s → s.holds S w (vals (i + j))) → K (putSome ops vals (fun j => j != d) (List.range' i ss.length) a)
  | [], i, a, h, _, h2, _ => by simp at h2; omega
  | s :: ss, i, a, h, h1, h2, hs => by
    by_cases hid : i = d
    · subst hid
      simp only [Nat.sub_self, List.length_cons, List.range'_succ, List.map_cons, List.eraseIdx_cons_zero] at h
      have := forVals_all (vals := vals) ss (i + 1) a h (fun j s' hj => by have := hs (j + 1) s' (by omega) (by simpa using hj); rwa [show i + (j + 1) = i + 1 + j by omega] at this)
      simp only [putSome, List.length_cons, List.range'_succ, List.foldl_cons, bne_self_eq_false, Bool.false_eq_true, if_false] at this ⊢
      have e : ∀ (l : List Nat) (a : Act), (∀ j ∈ l, j ≠ i) → List.foldl (fun a j => if (j != i) = true then a.put (dstOf ops j) (vals j) else a) a l = List.foldl (fun a j => a.put (dstOf ops j) (vals j)) a l := by
        intro l
        induction l with
        | nil => intro a _; rfl
        | cons x xs ih =>
          intro a hx
          have hxi := hx x (by simp)
          have hb : (x != i) = true := by simpa using hxi
          simp only [List.foldl_cons, hb, if_true]
          exact ih _ (fun j hj => hx j (by simp [hj]))
      rw [e _ _ (fun j hj => by have := List.mem_range'_1.1 hj; omega)]
      simpa using this
    · have hsub : d - i = (d - (i + 1)) + 1 := by omega
      rw [hsub] at h
      simp only [List.length_cons, List.range'_succ, List.map_cons, List.eraseIdx_cons_succ] at h
      have h1' : ForVals S w K (((List.range' (i + 1) ss.length).map (dstOf ops)).eraseIdx (d - (i + 1))) (ss.eraseIdx (d - (i + 1))) (a.put (dstOf ops i) (vals i)) := h (vals i) (hs 0 s (by omega) rfl)
      have := forVals_skip ss (i + 1) _ h1' (by omega) (by simp at h2; omega) (fun j s' hj hj2 => by have := hs (j + 1) s' (by omega) (by simpa using hj2); rwa [show i + (j + 1) = i + 1 + j by omega] at this)
      simp only [putSome, List.length_cons, List.range'_succ, List.foldl_cons, bne_iff_ne, ne_eq, hid, not_false_eq_true, if_true] at this ⊢
      exact this

/-- **A region that draws its order**: shown for all orders at once; operation m comes behind all of the first m but, it may be, number d. -/
theorem region_lateC {L : List Oper} {id : Nat} {a0 : Act} {w : World} (S k W m d : Nat) (specs : List Spec) (calls : List Nat) (ds : List (Option Tmp)) {st od : Oper} (hm : P.follows .mixedOrders = true) (hc : genChk L.toArray a0.tmps.size m calls = true) (hc2 : ((L.toArray.extract 0 (m + 1)).size == m + 1) = true) (ht : tailChk L.toArray (m + 1) = true) (hd : downChk L.toArray (m + 1) = true) (hlate : lateChk (L.toArray.extract 0 (m + 1)) m d = true) (hlen : specs.length = m)
    (hds : (List.range m).map (dstOf L.toArray) = ds) (hst : L[m]? = some st) (hod : L[d]? = some od) (hsg : (st.guard.isNone && od.guard.isNone && decide (d ∉ calls)) = true) (h0 : StreamOk w S k)
    (hstep : LateOps P L.toArray (tailQ P L.toArray Q (m + 1)) a0 S k W w.drew specs calls 0 (L.take m) specs)
    (hA : ∀ w', Keeps S w.drew w' → StreamOk w' S (k + W * calls.length) → ForVals S w' (fun a => wpList P L.toArray Q (st :: L.drop (m + 1)) a w') ds specs a0)
    (hB : lateAll (L.toArray.extract 0 (m + 1)) m = false → ∀ w', Keeps S w.drew w' → StreamOk w' S (k + W * calls.length) → ForVals S w' (fun a => wpList P L.toArray Q (st :: od :: L.drop (m + 1)) a w') (ds.eraseIdx d) (specs.eraseIdx d) a0) : (Code.region id L.toArray true).wp P Q a0 w := by
  subst hlen
  simp only [Bool.and_eq_true, Option.isNone_iff_eq_none, decide_eq_true_eq] at hsg
  obtain ⟨⟨hsg, hog⟩, hdc⟩ := hsg
  have hsz : (L.toArray.extract 0 (specs.length + 1)).size = specs.length + 1 := by simpa using hc2
  have hmL : specs.length + 1 ≤ L.length := by simp at hsz; omega
  have hdm : d < specs.length := by
    simp only [lateChk, Bool.and_eq_true, decide_eq_true_eq] at hlate
    exact hlate.2
  have tailNone : ∀ o ∈ L.drop (specs.length + 1), o.guard = none := by
    intro o ho
    obtain ⟨j, hj⟩ := List.getElem?_of_mem ho
    rw [List.getElem?_drop] at hj
    have hlt := (List.getElem?_eq_some_iff.1 hj).1
    have h := List.all_eq_true.1 ht (specs.length + 1 + j) (List.mem_range.2 (by simpa using hlt))
    simp only [Bool.or_eq_true, decide_eq_true_eq, Bool.and_eq_true] at h
    have h2 := (h.resolve_left (by omega)).2
    rw [show L.toArray[specs.length + 1 + j]? = some o by simpa using hj] at h2
    simpa using h2
  have hdown : ∀ i, i < specs.length + 1 → ∃ o, (L.toArray.extract 0 (specs.length + 1))[i]? = some o ∧ ∀ e ∈ o.after, Region.binds .any e = true → e.on < i := by
    intro i hi
    have h := List.all_eq_true.1 hd i (List.mem_range.2 hi)
    rw [ext_get _ _ _ hi]
    cases ho : L.toArray[i]? with
    | none => rw [ho] at h; cases h
    | some o =>
      rw [ho] at h
      simp only [Option.map_some, Option.getD_some] at h
      refine ⟨o, rfl, fun e he hb => ?_⟩
      have h1 := Array.all_eq_true_iff_forall_mem.1 h e he
      simpa [hb] using h1
  have dEq : ∀ j, j < specs.length → dstOf (L.toArray.extract 0 (specs.length + 1)) j = dstOf L.toArray j := fun j hj => by unfold dstOf; rw [ext_get _ _ _ (by omega)]
  have pEq : ∀ (vals : Nat → Value) (f : Nat → Bool) (l : List Nat), (∀ j ∈ l, j < specs.length) → ∀ a, putSome (L.toArray.extract 0 (specs.length + 1)) vals f l a = putSome L.toArray vals f l a := by
    intro vals f l
    induction l with
    | nil => intro _ a; rfl
    | cons j l ih =>
      intro hl a
      have ih' := ih (fun i hi => hl i (List.mem_cons_of_mem _ hi))
      simp only [putSome, List.foldl_cons] at ih' ⊢
      rw [dEq j (hl j List.mem_cons_self)]
      exact ih' _
  have hc' : genChk (L.toArray.extract 0 (specs.length + 1)) a0.tmps.size specs.length calls = true := by
    simp only [genChk, Bool.and_eq_true, List.all_eq_true, List.mem_range, decide_eq_true_eq, Bool.or_eq_true, beq_iff_eq] at hc ⊢
    obtain ⟨⟨⟨⟨⟨hdst, hgd⟩, hmn⟩, h1n⟩, hnd⟩, hcm⟩ := hc
    refine ⟨⟨⟨⟨⟨fun i hi j hj => ?_, fun i hi => ?_⟩, by omega⟩, by omega⟩, hnd⟩, hcm⟩
    · rw [hsz] at hi hj
      have := hdst i (by simp; omega) j (by simp; omega)
      have ei : dstOf (L.toArray.extract 0 (specs.length + 1)) i = dstOf L.toArray i := by unfold dstOf; rw [ext_get _ _ _ hi]
      have ej : dstOf (L.toArray.extract 0 (specs.length + 1)) j = dstOf L.toArray j := by unfold dstOf; rw [ext_get _ _ _ hj]
      rw [ei, ej]; exact this
    · rw [ext_get _ _ _ (by omega)]; exact hgd i hi
  refine wp_region_any hm ?_
  refine tail_any (specs.length + 1) ht (L.length - (specs.length + 1)) (specs.length + 1) (by simp; omega) (Nat.le_refl _) a0 _ ?_
  have g := gen_late (P := P) (ops := L.toArray.extract 0 (specs.length + 1)) (Q := tailQ P L.toArray Q (specs.length + 1)) (m := specs.length) (d := d) (W := W) (a0 := a0) (S := S) (k := k) (w0 := w.drew) (specs := specs) (calls := calls) (st := st) (od := od) hsz hc' rfl (by rw [ext_get _ _ _ (by omega)]; simpa using hst) hsg (by rw [ext_get _ _ _ (by omega)]; simpa using hod) hlate hdc hdown ?_ ?_ ?_ (specs.length + 1) (Array.replicate (specs.length + 1) false) (fun _ => undef) w.drew (by simp) (by simp) ?_ (Keeps.refl _ _) ?_ ?_ ?_
  · have e0 : ∀ (l : List Nat), (∀ i ∈ l, i < specs.length) → ∀ a, putSome (L.toArray.extract 0 (specs.length + 1)) (fun _ => undef) (fun i => (Array.replicate (specs.length + 1) false).getD i true) l a = a := by
      intro l
      induction l with
      | nil => intro _ a; rfl
      | cons j l ih =>
        intro hl a
        have hj := hl j List.mem_cons_self
        have ih' := ih (fun i hi => hl i (List.mem_cons_of_mem _ hi))
        simp only [putSome, List.foldl_cons] at ih' ⊢
        rw [show (Array.replicate (specs.length + 1) false).getD j true = false by simp [show j < specs.length + 1 by omega]]
        exact ih' a
    rw [e0 _ (fun i hi => List.mem_range.1 hi) a0] at g
    exact g
  · intro i o s hi ho hs a w' c hk hst2 hcc hfr hdp K hK
    have hoL : L[i]? = some o := by rw [ext_get _ _ _ (by omega)] at ho; simpa using ho
    have st2 := lateOps_at 0 _ _ hstep i o s (by rw [List.getElem?_take_of_lt hi]; exact hoL) hs
    rw [Nat.zero_add] at st2
    refine st2 a w' c hk hst2 hcc (fun t ht => hfr t ?_) (fun j t s' hj ht hs' => hdp j t s' hj (by rw [dEq j (List.getElem?_eq_some_iff.1 hs').1]; exact ht) hs') K hK
    rw [Array.extract_extract] 
    simpa [Nat.min_eq_left (show specs.length ≤ specs.length + 1 by omega)] using ht
  · intro vals w' hk hst2 hs
    rw [pEq vals _ _ (fun j hj => List.mem_range.1 hj)]
    have h := hA w' hk hst2
    subst hds
    have h2 := forVals_all (S := S) (w := w') (vals := vals) (ops := L.toArray) (K := fun a => wpList P L.toArray Q (st :: L.drop (specs.length + 1)) a w') specs 0 a0 (by rw [← List.range_eq_range']; exact h) (fun j s hj => by rw [Nat.zero_add]; exact hs j s hj)
    rw [← List.range_eq_range'] at h2
    have h3 := toTail_of (st :: L.drop (specs.length + 1)) (fun o ho => by
      rcases List.mem_cons.1 ho with rfl | ho
      · exact hsg
      · exact tailNone o ho) _ _ h2
    exact h3.imp (fun h => tailQ_wp h) (fun h => h)
  · intro hla vals w' hk hst2 hs
    rw [pEq vals _ _ (fun j hj => List.mem_range.1 hj)]
    have h := hB hla w' hk hst2
    subst hds
    have h2 := forVals_skip (S := S) (w := w') (vals := vals) (ops := L.toArray) (d := d) (K := fun a => wpList P L.toArray Q (st :: od :: L.drop (specs.length + 1)) a w') specs 0 a0 (by rw [← List.range_eq_range']; exact h) (Nat.zero_le _) (by omega) (fun j s hne hj => by rw [Nat.zero_add] at hne ⊢; exact hs j s hne hj)
    rw [← List.range_eq_range'] at h2
    have h3 := toTail_of (st :: od :: L.drop (specs.length + 1)) (fun o ho => by
      rcases List.mem_cons.1 ho with rfl | ho
      · exact hsg
      · rcases List.mem_cons.1 ho with rfl | ho
        · exact hog
        · exact tailNone o ho) _ _ h2
    refine h3.imp (fun h => ?_) (fun h => h)
    have h4 := Oper.wp_mono (K' := fun a' w' => lastQ P od (tailQ P L.toArray Q (specs.length + 1)) .normal a' w') (fun a w h => h.imp (fun h => tailQ_wp h) (fun h => h)) h
    unfold Oper.wp at *
    generalize (execOp (putSome L.toArray vals (fun i => i != d) (List.range specs.length) a0).eval st).run P w' = r at *
    cases r with
    | ok n w' =>
      cases n <;> simp only [Oper.upon] at h4 ⊢ <;>
        first
          | exact h4
          | exact Calls.mono h4 (fun e w'' he => by cases e <;> exact he)
          | exact Rows.mono h4 (fun _ _ he => he)
    | halt x w' => cases x <;> simp only [Oper.upon] at h4 ⊢ <;> exact h4
  · intro i o _ hl
    exfalso
    by_cases h' : i < specs.length + 1
    · simp [h'] at hl
    · simp [h'] at hl
  · have : calls.countP (fun i => (Array.replicate (specs.length + 1) false).getD i true) = 0 := List.countP_eq_zero.2 (fun i hi => by
      have h5 := hc
      simp only [genChk, Bool.and_eq_true, List.all_eq_true, decide_eq_true_eq] at h5
      have := h5.2 i hi
      simp [show i < specs.length + 1 by omega])
    rw [this, Nat.mul_zero]
    exact h0
  · intro i s h hs
    have hlt := (List.getElem?_eq_some_iff.1 hs).1
    simp [show i < specs.length + 1 by omega] at h
  · exact Nat.le_trans List.countP_le_length (by simp)
theorem region_late {L : List Oper} {id : Nat} {a0 : Act} {w : World} (S k W m d : Nat) (specs : List Spec) (calls : List Nat) (ds : List (Option Tmp)) {st od : Oper} (hm : P.follows .mixedOrders = true) (hc : genChk L.toArray a0.tmps.size m calls = true) (hc2 : ((L.toArray.extract 0 (m + 1)).size == m + 1) = true) (ht : tailChk L.toArray (m + 1) = true) (hd : downChk L.toArray (m + 1) = true) (hlate : lateChk (L.toArray.extract 0 (m + 1)) m d = true) (hlen : specs.length = m)
    (hds : (List.range m).map (dstOf L.toArray) = ds) (hst : L[m]? = some st) (hod : L[d]? = some od) (hsg : (st.guard.isNone && od.guard.isNone && decide (d ∉ calls)) = true) (h0 : StreamOk w S k)
    (hstep : LateOps P L.toArray (tailQ P L.toArray Q (m + 1)) a0 S k W w.drew specs calls 0 (L.take m) specs)
    (hA : ∀ w', Keeps S w.drew w' → StreamOk w' S (k + W * calls.length) → ForVals S w' (fun a => wpList P L.toArray Q (st :: L.drop (m + 1)) a w') ds specs a0)
    (hB : ∀ w', Keeps S w.drew w' → StreamOk w' S (k + W * calls.length) → ForVals S w' (fun a => wpList P L.toArray Q (st :: od :: L.drop (m + 1)) a w') (ds.eraseIdx d) (specs.eraseIdx d) a0) : (Code.region id L.toArray true).wp P Q a0 w :=
  region_lateC S k W m d specs calls ds hm hc hc2 ht hd hlate hlen hds hst hod hsg h0 hstep hA (fun _ => hB)
/-- The same where operation m waits, through others, for all ahead of it (d: any one that is no call): one end goal. -/
theorem region_all {L : List Oper} {id : Nat} {a0 : Act} {w : World} (S k W m d : Nat) (specs : List Spec) (calls : List Nat) (ds : List (Option Tmp)) {st od : Oper} (hm : P.follows .mixedOrders = true) (hc : genChk L.toArray a0.tmps.size m calls = true) (hc2 : ((L.toArray.extract 0 (m + 1)).size == m + 1) = true) (ht : tailChk L.toArray (m + 1) = true) (hd : downChk L.toArray (m + 1) = true) (hlate : (lateAll (L.toArray.extract 0 (m + 1)) m && lateChk (L.toArray.extract 0 (m + 1)) m d) = true) (hlen : specs.length = m)
    (hds : (List.range m).map (dstOf L.toArray) = ds) (hst : L[m]? = some st) (hod : L[d]? = some od) (hsg : (st.guard.isNone && od.guard.isNone && decide (d ∉ calls)) = true) (h0 : StreamOk w S k)
    (hstep : LateOps P L.toArray (tailQ P L.toArray Q (m + 1)) a0 S k W w.drew specs calls 0 (L.take m) specs)
    (hA : ∀ w', Keeps S w.drew w' → StreamOk w' S (k + W * calls.length) → ForVals S w' (fun a => wpList P L.toArray Q (st :: L.drop (m + 1)) a w') ds specs a0) : (Code.region id L.toArray true).wp P Q a0 w := by
  rw [Bool.and_eq_true] at hlate
  exact region_lateC S k W m d specs calls ds hm hc hc2 ht hd hlate.2 hlen hds hst hod hsg h0 hstep hA (fun h => by rw [hlate.1] at h; cases h)
theorem heap_alloc_new (w : World) (o : Obj) : (w.alloc o).heap[w.heap.size]? = some o := by
  show (w.heap.push o)[w.heap.size]? = some o
  simp
/-- A new block behind a pointer. -/
theorem gen_box {o : Oper} {a : Act} {w : World} {K : Act → World → Prop} {S k : Nat} {p : World → Value → Prop} (cs : Array Value) (ty : TypeId) (h : (execOp a.eval o).run P w = .ok (.value (.pointer (some ⟨w.heap.size, 0, none⟩))) (w.alloc (.cells cs ty))) (hp : ∀ w', Keeps S (w.alloc (.cells cs ty)) w' → p w' (.pointer (some ⟨w.heap.size, 0, none⟩))) (hst : StreamOk w S k)
    (hK : ∀ v w', (Spec.mem p).holds S w' v → Keeps S w w' → StreamOk w' S k → K (a.put o.dst v) w') : Oper.wp P o a w K Q := by
  unfold Oper.wp; rw [h]
  exact hK _ _ hp ((Keeps.refl S w).alloc _) (hst.below (ext_alloc (Below.refl _ _)))
/-- What was there before, asked on a list (quick to reckon). -/
theorem fr_list {ops : Array Oper} {n : Nat} {R : Tmp → Prop} (h : ∀ t, ((ops.extract 0 n).all fun o => o.dst != some t) = true → R t) (t : Tmp) (hl : ((ops.toList.take n).all fun o => o.dst != some t) = true) : R t := by
  refine h t ?_
  rw [← Array.all_toList, Array.toList_extract, List.extract_eq_take_drop]
  simpa using hl
end
end Go.Proofs.YtppinnjdaoaddaaGreatDoor
