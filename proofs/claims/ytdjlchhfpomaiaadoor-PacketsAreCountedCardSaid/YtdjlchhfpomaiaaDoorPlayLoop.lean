/- What is proved here: a row of arrivals and a row of bytes of the call's own, with the payloads in blocks of their own. No condition. -/
import Derived.Test.YtdjlchhfpomaiaaDoorPlayLaw
import Derived.Maps.AppendAt
set_option linter.unusedVariables false
set_option linter.unusedSimpArgs false
namespace Go.Proofs.YtdjlchhfpomaiaaDoor
open Go.RowKit

def flatA (l : List Arr) : List Value := l.flatMap Arr.cells
theorem flatA_length (cs : List Arr) : (flatA cs).length = cs.length * 7 := by
  induction cs with
  | nil => rfl
  | cons c cs ih => simp only [flatA, List.flatMap_cons, List.length_append, List.length_cons] at ih ⊢; rw [ih]; simp [Arr.cells]; omega
theorem flatA_at : ∀ (cs : List Arr) (i j : Nat), i < cs.length → j < 7 → (flatA cs)[i * 7 + j]? = (cs.getD i noArr).cells[j]?
  | c :: cs, 0, j, hi, hj => by
    simp only [flatA, List.flatMap_cons, Nat.zero_mul, Nat.zero_add]
    rw [List.getElem?_append_left (by simp [Arr.cells]; omega)]
    rfl
  | c :: cs, i + 1, j, hi, hj => by
    have ih := flatA_at cs i j (by simpa using hi) hj
    simp only [flatA, List.flatMap_cons] at ih ⊢
    rw [List.getElem?_append_right (by simp [Arr.cells]; omega)]
    have e : (i + 1) * 7 + j - c.cells.length = i * 7 + j := by simp [Arr.cells]; omega
    rw [e, ih]
    rfl
theorem flatA_snoc (l : List Arr) (x : Arr) : flatA (l ++ [x]) = flatA l ++ x.cells := by simp [flatA]

/-- A payload that lies in a block of its own. -/
def PayAt (w : World) (S : Nat) (va vr : Value) (x : Arr) : Prop :=
  IRow .u8 w x.pa x.pn x.p.pay ∧ (x.pa = none → x.pn = 0) ∧ ∀ p, x.pa = some p → p.spot = none ∧ S < p.block ∧ p.block < w.heap.size ∧ va.ownBlock ≠ some p.block ∧ vr.ownBlock ≠ some p.block

theorem IRow.grown {k : IntKind} {w w' : World} {row : Option Nat} {a : Option Addr} {n : Nat} {xs : List Int} (h : IRow k w a n xs) (hg : w.grownBy w' row) (hn : ∀ p, a = some p → row ≠ some p.block) : IRow k w' a n xs := by
  refine ⟨h.1, h.2.imp id ?_⟩
  rintro ⟨b, off, ha, hl, hc⟩
  exact ⟨b, off, ha, Nat.lt_of_lt_of_le hl hg.size, fun i hi => (grown_cell hg hl (hn _ ha)).trans (hc i hi)⟩

/-- The arrivals and the bytes so far. -/
structure WSt (w : World) (S : Nat) (va vr : Value) (l : List Arr) (r : List Int) : Prop where
  lt : S < w.heap.size
  rows : w.ownsRow (S + 1) 33 7 va l.length (flatA l)
  raw : w.ownsRow (S + 1) 5 1 vr r.length (r.map (Value.int .u8))
  apart : ∀ b, va.ownBlock = some b → vr.ownBlock ≠ some b
  pays : ∀ j, j < l.length → PayAt w S va vr (l.getD j noArr)

theorem WSt.keeps {w w' : World} {S : Nat} {va vr : Value} {l : List Arr} {r : List Int} (h : WSt w S va vr l r) (hk : Keeps S w w') : WSt w' S va vr l r := by
  refine ⟨Nat.lt_of_lt_of_le h.lt hk.size, own_keeps h.rows hk (Nat.lt_succ_self _), own_keeps h.raw hk (Nat.lt_succ_self _), h.apart, fun j hj => ?_⟩
  obtain ⟨h1, h0, h2⟩ := h.pays j hj
  refine ⟨h1.keeps hk (fun b off e => ?_), h0, fun p e => ?_⟩
  · have := (h2 _ e).2.1; simp at this; omega
  · obtain ⟨a1, a2, a3, a4, a5⟩ := h2 p e
    exact ⟨a1, a2, Nat.lt_of_lt_of_le a3 hk.size, a4, a5⟩

theorem own_apart {w w' : World} {base : Nat} {e : TypeId} {size : Nat} {v : Value} {n : Nat} {xs : List Value} {row : Option Nat} (h : w.ownsRow base e size v n xs) (hg : w.grownBy w' row) (hn : ∀ b, row = some b → v.ownBlock ≠ some b) : w'.ownsRow base e size v n xs :=
  h.kept hg (by
    cases hv : v.ownBlock with
    | none => exact Or.inl rfl
    | some g => exact Or.inr (fun e => hn g e.symm hv))

theorem getD_snocA (l : List Arr) (x : Arr) (j : Nat) (h : j < (l ++ [x]).length) : (j < l.length ∧ (l ++ [x]).getD j noArr = l.getD j noArr) ∨ (j = l.length ∧ (l ++ [x]).getD j noArr = x) := by
  by_cases hj : j < l.length
  · exact Or.inl ⟨hj, by simp [List.getD_eq_getElem?_getD, List.getElem?_append_left hj]⟩
  · have : j = l.length := by simp at h; omega
    subst this
    exact Or.inr ⟨rfl, by simp [List.getD_eq_getElem?_getD]⟩

/-- One more arrival. -/
theorem WSt.more {w w' : World} {S : Nat} {va vr va' : Value} {l : List Arr} {r : List Int} {x : Arr} (h : WSt w S va vr l r) (hx : PayAt w S va vr x) (ho : w'.ownsRow (S + 1) 33 7 va' (l.length + 1) (flatA l ++ x.cells)) (hg : w.grownBy w' va.ownBlock) (hl : va'.ownBlock = va.ownBlock ∨ va'.ownBlock = some w.heap.size) : WSt w' S va' vr (l ++ [x]) r := by
  have pay : ∀ y, PayAt w S va vr y → PayAt w' S va' vr y := by
    rintro y ⟨h1, h0, h2⟩
    refine ⟨h1.grown hg (fun p e => (h2 p e).2.2.2.1), h0, fun p e => ?_⟩
    obtain ⟨a1, a2, a3, a4, a5⟩ := h2 p e
    refine ⟨a1, a2, Nat.lt_of_lt_of_le a3 hg.size, ?_, a5⟩
    rcases hl with e1 | e1
    · rw [e1]; exact a4
    · rw [e1]; intro e2; injection e2 with e2; omega
  refine ⟨Nat.lt_of_lt_of_le h.lt hg.size, ?_, own_apart h.raw hg (fun b e => h.apart b e), fun b e => ?_, fun j hj => ?_⟩
  · rw [flatA_snoc, List.length_append]; exact ho
  · rcases hl with e1 | e1
    · rw [e1] at e; exact h.apart b e
    · rw [e1] at e
      injection e with e
      intro e2
      have := (h.raw.lt b e2).2
      omega
  · rcases getD_snocA l x j hj with ⟨hj2, e⟩ | ⟨_, e⟩
    · rw [e]; exact pay _ (h.pays j hj2)
    · rw [e]; exact pay _ hx

/-- More bytes. -/
theorem WSt.bytes {w w' : World} {S : Nat} {va vr vr' : Value} {l : List Arr} {r s : List Int} (h : WSt w S va vr l r) (ho : w'.ownsRow (S + 1) 5 1 vr' (r.length + s.length) (r.map (Value.int .u8) ++ s.map (Value.int .u8))) (hg : w.grownBy w' vr.ownBlock) (hl : vr'.ownBlock = vr.ownBlock ∨ vr'.ownBlock = some w.heap.size) : WSt w' S va vr' l (r ++ s) := by
  refine ⟨Nat.lt_of_lt_of_le h.lt hg.size, own_apart h.rows hg (fun b e e2 => h.apart b e2 e), ?_, fun b e => ?_, fun j hj => ?_⟩
  · rw [List.map_append, List.length_append]; exact ho
  · rcases hl with e1 | e1
    · rw [e1]; exact h.apart b e
    · rw [e1]
      intro e2
      injection e2 with e2
      have := (h.rows.lt b e).2
      omega
  · obtain ⟨h1, h0, h2⟩ := h.pays j hj
    refine ⟨h1.grown hg (fun p e => (h2 p e).2.2.2.2), h0, fun p e => ?_⟩
    obtain ⟨a1, a2, a3, a4, a5⟩ := h2 p e
    refine ⟨a1, a2, Nat.lt_of_lt_of_le a3 hg.size, a4, ?_⟩
    rcases hl with e1 | e1
    · rw [e1]; exact a5
    · rw [e1]; intro e2; injection e2 with e2; omega

theorem WSt.arrRow {w : World} {S : Nat} {va vr : Value} {l : List Arr} {r : List Int} (h : WSt w S va vr l r) : ∃ a cap, va = .slice a l.length cap ∧ ArrRow w a l.length l := by
  rcases h.rows.2 with ⟨e, h0⟩ | ⟨g, cap, cur, e, hb, hg, _⟩
  · exact ⟨none, 0, by rw [e, h0], rfl, Or.inl h0, fun i hi => (h.pays i hi).1⟩
  · refine ⟨some ⟨g, 0, none⟩, cap, e, rfl, Or.inr ⟨g, 0, rfl, (h.rows.lt g (by rw [e]; rfl)).2, fun i hi j hj => ?_⟩, fun i hi => (h.pays i hi).1⟩
    have hr := h.rows
    rw [e] at hr
    rw [Nat.zero_add, hr.cellAt (i * 7 + j) (by omega), flatA_at l i j hi hj]

theorem WSt.arrRow_at {w : World} {S : Nat} {a : Option Addr} {n cap : Nat} {vr : Value} {l : List Arr} {r : List Int} (h : WSt w S (.slice a n cap) vr l r) : ArrRow w a n l := by
  obtain ⟨a', cap', e, hr⟩ := h.arrRow
  injection e with e1 e2 e3
  subst e1 e2
  exact hr

/-- The packets of the statement. -/
structure WsOk (T sq : Int) (l : List Arr) (r : List Int) : Prop where
  flat : r = l.flatMap (fun x => x.p.pay)
  len : r.length = 40 * l.length
  each : ∀ j, j < l.length → (l.getD j noArr).p.type = 0 ∧ (l.getD j noArr).p.src = 0 ∧ (l.getD j noArr).p.seq = (sq + (j : Int)) % 65536 ∧ (l.getD j noArr).p.time = (T + 40 * (j : Int)) % 4294967296 ∧ 5 * (j : Int) ≤ (l.getD j noArr).at_ ∧ (l.getD j noArr).at_ ≤ 5 * (j : Int) + 4 ∧ Bytes (l.getD j noArr).p.pay ∧ (l.getD j noArr).p.pay.length = 40

theorem WsOk.nil (T sq : Int) : WsOk T sq [] [] := ⟨rfl, rfl, fun j hj => by simp at hj⟩
theorem WsOk.more {T sq : Int} {l : List Arr} {r : List Int} {x : Arr} (h : WsOk T sq l r) (hx : x.p.type = 0 ∧ x.p.src = 0 ∧ x.p.seq = (sq + (l.length : Int)) % 65536 ∧ x.p.time = (T + 40 * (l.length : Int)) % 4294967296 ∧ 5 * (l.length : Int) ≤ x.at_ ∧ x.at_ ≤ 5 * (l.length : Int) + 4 ∧ Bytes x.p.pay ∧ x.p.pay.length = 40) : WsOk T sq (l ++ [x]) (r ++ x.p.pay) := by
  refine ⟨by rw [h.flat]; simp, by have := h.len; have := hx.2.2.2.2.2.2.2; simp; omega, fun j hj => ?_⟩
  rcases getD_snocA l x j hj with ⟨hj2, e⟩ | ⟨rfl, e⟩
  · rw [e]; exact h.each j hj2
  · rw [e]; exact hx

theorem WsOk.bytes {T sq : Int} {l : List Arr} {r : List Int} (h : WsOk T sq l r) : Bytes r := by
  intro x hx
  rw [h.flat] at hx
  obtain ⟨y, hy, hxy⟩ := List.mem_flatMap.1 hx
  obtain ⟨j, hj, e⟩ := List.getElem_of_mem hy
  have := (h.each j hj).2.2.2.2.2.2.1
  rw [List.getD_eq_getElem?_getD, List.getElem?_eq_getElem hj, Option.getD_some, e] at this
  exact this x hxy
theorem WsOk.inTime {T sq : Int} {l : List Arr} {r : List Int} (h : WsOk T sq l r) (t0 : 0 ≤ T) (t1 : T ≤ 4294967295) : InTime l T :=
  ⟨t0, t1, fun j hj => (h.each j hj).2.2.2.2.1, fun j hj => (h.each j hj).2.2.2.2.2.1, fun j hj => (h.each j hj).2.2.2.1, fun j hj => (h.each j hj).2.2.2.2.2.2.2⟩
theorem WsOk.arrOk {T sq : Int} {l : List Arr} {r : List Int} (h : WsOk T sq l r) (hl : l.length ≤ 5) : ArrOk l := by
  refine ⟨by omega, fun i hi => ?_, fun i hi => ?_, fun i hi => ?_, fun i h0 hi => ?_, fun i hi => ?_⟩
  · have := (h.each i hi).2.2.2.2.1; omega
  · have := (h.each i hi).2.2.2.2.2.1; omega
  · obtain ⟨a, b, c, d, e, f, g, k⟩ := h.each i hi
    exact ⟨by omega, by omega, by omega, by omega, by omega, by omega, by omega, by omega, g, by omega⟩
  · have a := (h.each i hi).2.2.2.2.1
    have b := (h.each (i - 1) (by omega)).2.2.2.2.2.1
    omega
  · rw [(h.each i hi).2.1, (h.each 0 (by omega)).2.1]
end Go.Proofs.YtdjlchhfpomaiaaDoor
