/- What is proved here: lemmas and contracts for the statement, put together out of smaller texts (CarrOwn, CarrRows, PlanDraw, PortLit, CarrBox, FlatSet, CarrTwo, OwnK, Posts, BangIs, BcnBase, ActBase, CloneS, SortS, RefSmall, OrErr, ActMath, PortTab, SplitPost, Numbered, DkpNum, TxtAdd, DkpNmb, DkpWrd). No condition beyond those stated. -/
import Derived.Test.YtamoclofloijpaaGreatDoorPtPkB
import Derived.Test.YtamoclofloijpaaGreatDoorPtPkA
import Derived.Deep.MidRow
import Derived.Maps.AppendAt
import Derived.Shelf.SlSortCmp.SmallK
import Derived.Test.YtamoclofloijpaaGreatDoorShelfSlip
import Derived.Sort.OwnSorted
import Derived.Test.YtamoclofloijpaaGreatDoorShelfPort
import Derived.Lib.ItoaLen
import Derived.Lib.ConvBytes
import Derived.Test.YtamoclofloijpaaGreatDoorShelfTxt
import Derived.Shelf.Strings.Builder1
set_option linter.unusedVariables false
set_option linter.unusedSimpArgs false
namespace Go.Proofs.YtamoclofloijpaaGreatDoor
open Go.RowKit

/-- The blocks with p stay. -/
def KeepsIf (p : Nat → Prop) (w W : World) : Prop := w.heap.size ≤ W.heap.size ∧ ∀ b, b < w.heap.size → p b → W.heap[b]? = w.heap[b]?
theorem KeepsIf.refl (p : Nat → Prop) (w : World) : KeepsIf p w w := ⟨Nat.le_refl _, fun _ _ _ => rfl⟩
theorem KeepsIf.trans {p : Nat → Prop} {a b c : World} (h : KeepsIf p a b) (k : KeepsIf p b c) : KeepsIf p a c :=
  ⟨Nat.le_trans h.1 k.1, fun i hi hp => (k.2 i (Nat.lt_of_lt_of_le hi h.1) hp).trans (h.2 i hi hp)⟩
theorem KeepsIf.weak {p q : Nat → Prop} {w W : World} (h : KeepsIf p w W) (hq : ∀ b, b < w.heap.size → q b → p b) : KeepsIf q w W := ⟨h.1, fun b hb k => h.2 b hb (hq b hb k)⟩
theorem KeepsIf.of_keeps {p : Nat → Prop} {S : Nat} {w W : World} (h : Keeps S w W) (hp : ∀ b, p b → b ≠ S) : KeepsIf p w W := ⟨h.size, fun b hb k => h.block b hb (hp b k)⟩
theorem KeepsIf.of_below {p : Nat → Prop} {w W : World} (h : Below w.heap.size w W) : KeepsIf p w W := ⟨h.size, fun b hb k => h.block b hb⟩
theorem KeepsIf.grown {p : Nat → Prop} {w W : World} {row : Option Nat} (h : w.grownBy W row) (hp : ∀ b, p b → row ≠ some b) : KeepsIf p w W := ⟨h.size, fun b hb k => h.block b hb (fun e => hp b k e.symm)⟩
theorem KeepsIf.set {p : Nat → Prop} {w : World} {q : Addr} {v : Value} (hp : ∀ b, p b → q.block ≠ b) : KeepsIf p w (w.setCell q v) := ⟨by simp, fun b hb k => Below.heap_setCell _ _ _ _ (fun e => hp b k e.symm)⟩
theorem KeepsIf.alloc {p : Nat → Prop} (w : World) (o : Obj) : KeepsIf p w (w.alloc o) := ⟨by simp, fun b hb k => Below.heap_alloc _ _ _ hb⟩
theorem own_if {p : Nat → Prop} {w W : World} {base : Nat} {e : TypeId} {size : Nat} {v : Value} {n : Nat} {xs : List Value} (h : w.ownsRow base e size v n xs) (hk : KeepsIf p w W) (hp : ∀ b, v.ownBlock = some b → p b) : W.ownsRow base e size v n xs := by
  refine ⟨h.1, h.2.imp id ?_⟩
  rintro ⟨g, cap, cur, rfl, h1, h2, h3⟩
  exact ⟨g, cap, cur, rfl, h1, (hk.2 g (Array.getElem?_eq_some_iff.1 h2).1 (hp g rfl)).trans h2, h3⟩
theorem own_ge {p : Nat → Prop} {w W : World} {base : Nat} {e : TypeId} {size : Nat} {v : Value} {n : Nat} {xs : List Value} (h : w.ownsRow base e size v n xs) (hk : KeepsIf (fun b => base ≤ b) w W) : W.ownsRow base e size v n xs := own_if h hk (fun b e => (h.lt b e).1)
theorem own_caps {w : World} {base : Nat} {e : TypeId} {size : Nat} {a : Option Addr} {m c : Nat} {n : Nat} {xs : List Value} (h : w.ownsRow base e size (.slice a m c) n xs) : m = n ∧ n ≤ c := by
  rcases h.2 with ⟨h1, h0⟩ | ⟨g, cap, cur, h1, _, _, h4, _⟩
  · injection h1 with e1 e2 e3; omega
  · injection h1 with e1 e2 e3; omega

/-- Rates with bounds. -/
def RatesOk (l : List Rate) : Prop := l.length ≤ 50 ∧ ∀ r ∈ l, r.p.length ≤ 100 ∧ -2000000000000 ≤ r.price ∧ r.price ≤ 2000000000000
def DeckBounds (d : Deck) : Prop := (-2000000000000 ≤ d.from_ ∧ d.from_ ≤ 2000000000000) ∧ (-2000000000000 ≤ d.setup ∧ d.setup ≤ 2000000000000) ∧ (-2000000000000 ≤ d.least ∧ d.least ≤ 2000000000000) ∧ (-2000000000000 ≤ d.step ∧ d.step ≤ 2000000000000)
theorem mem_getD {α : Type} {l : List α} {i : Nat} (d : α) (h : i < l.length) : l.getD i d ∈ l := by
  rw [List.getD_eq_getElem?_getD, List.getElem?_eq_getElem h]
  exact List.getElem_mem h
/-- Decks that stay where the blocks with p stay. -/
def DecksIf (p : Nat → Prop) (w : World) (l : List Deck) : Prop := ∀ W, KeepsIf p w W → ∀ i, i < l.length → DeckFine W (l.getD i noDeck)
theorem DecksIf.nil (p : Nat → Prop) (w : World) : DecksIf p w [] := fun W hW i hi => by cases hi
theorem DecksIf.on {p q : Nat → Prop} {w w' : World} {l : List Deck} (h : DecksIf p w l) (hk : ∀ W, KeepsIf q w' W → KeepsIf p w W) : DecksIf q w' l := fun W hW => h W (hk W hW)
theorem getD_snoc {α : Type} (l : List α) (x d : α) (i : Nat) : (l ++ [x]).getD i d = if i < l.length then l.getD i d else if i = l.length then x else d := by
  by_cases h : i < l.length
  · rw [if_pos h]; simp [List.getElem?_append_left h]
  · rw [if_neg h]
    by_cases h2 : i = l.length
    · subst h2; simp
    · rw [if_neg h2, List.getD_eq_getElem?_getD, List.getElem?_eq_none (by simp; omega)]; rfl
theorem DecksIf.snoc {p : Nat → Prop} {w : World} {l : List Deck} {d : Deck} (h : DecksIf p w l) (hd : ∀ W, KeepsIf p w W → DeckFine W d) : DecksIf p w (l ++ [d]) := fun W hW i hi => by
  rw [getD_snoc]
  by_cases h1 : i < l.length
  · rw [if_pos h1]; exact h W hW i h1
  · rw [if_neg h1, if_pos (by simp at hi; omega)]; exact hd W hW
/-- Carriers that stay where the blocks with p stay. -/
def CarrsIf (p : Nat → Prop) (w : World) (l : List Carr) : Prop := ∀ W, KeepsIf p w W → ∀ i, i < l.length → CarrFine W (l.getD i noCarr)
theorem CarrsIf.nil (p : Nat → Prop) (w : World) : CarrsIf p w [] := fun W hW i hi => by cases hi
theorem CarrsIf.on {p q : Nat → Prop} {w w' : World} {l : List Carr} (h : CarrsIf p w l) (hk : ∀ W, KeepsIf q w' W → KeepsIf p w W) : CarrsIf q w' l := fun W hW => h W (hk W hW)
theorem CarrsIf.snoc {p : Nat → Prop} {w : World} {l : List Carr} {d : Carr} (h : CarrsIf p w l) (hd : ∀ W, KeepsIf p w W → CarrFine W d) : CarrsIf p w (l ++ [d]) := fun W hW i hi => by
  rw [getD_snoc]
  by_cases h1 : i < l.length
  · rw [if_pos h1]; exact h W hW i h1
  · rw [if_neg h1, if_pos (by simp at hi; omega)]; exact hd W hW
theorem CarrsIf.set {p : Nat → Prop} {w : World} {l : List Carr} {d : Carr} {r : Nat} (h : CarrsIf p w l) (hd : ∀ W, KeepsIf p w W → CarrFine W d) : CarrsIf p w (l.set r d) := fun W hW i hi => by
  have hi2 : i < l.length := by simpa using hi
  by_cases h1 : i = r
  · subst h1
    have : (l.set i d).getD i noCarr = d := by simp [hi2]
    rw [this]; exact hd W hW
  · have : (l.set r d).getD i noCarr = l.getD i noCarr := by simp [List.getElem?_set, Ne.symm h1]
    rw [this]; exact h W hW i hi2
end Go.Proofs.YtamoclofloijpaaGreatDoor

set_option linter.unusedVariables false
set_option linter.unusedSimpArgs false
namespace Go.Proofs.YtamoclofloijpaaGreatDoor
open Go.RowKit

structure ShrRow (w : World) (a : Option Addr) (n : Nat) (l : List Shr) : Prop where
  cells : Cells w 2 a n (l.map Shr.cells)
  few : n ≤ 50
  each : ∀ i, i < l.length → (l.getD i noShr).c.length ≤ 100 ∧ -2000000000000 ≤ (l.getD i noShr).part ∧ (l.getD i noShr).part ≤ 2000000000000
theorem ShrRow.below {w w' : World} {a : Option Addr} {n : Nat} {l : List Shr} (h : ShrRow w a n l) (hb : Below w.heap.size w w') : ShrRow w' a n l := ⟨h.cells.below hb, h.few, h.each⟩
theorem ShrRow.len {w : World} {a : Option Addr} {n : Nat} {l : List Shr} (h : ShrRow w a n l) : n = l.length := by have := h.cells.len; simpa using this
theorem ShrRow.at {w : World} {a : Option Addr} {n : Nat} {l : List Shr} (h : ShrRow w a n l) (hn : 0 < n) : ∃ b off, a = some ⟨b, off, none⟩ ∧ b < w.heap.size ∧ ∀ i, i < n → w.cell? ⟨b, off + i * 2, none⟩ = some (.string ⟨(l.getD i noShr).c.toArray⟩) ∧ w.cell? ⟨b, off + i * 2 + 1, none⟩ = some (.int .i64 (l.getD i noShr).part) := by
  have hl := h.len
  rcases h.cells.row with h0 | ⟨b, off, ha, hb, hc⟩
  · omega
  · refine ⟨b, off, ha, hb, fun i hi => ?_⟩
    have k0 := hc i hi 0 (by omega)
    have k1 := hc i hi 1 (by omega)
    rw [getD_map Shr.cells l i noShr [] (by omega)] at k0 k1
    exact ⟨k0, k1⟩
theorem ShrRow.of_own {w : World} {base : Nat} {e : TypeId} {v : Value} {n : Nat} {l : List Shr} (h : w.ownsRow base e 2 v n ((l.map Shr.cells).flatten)) (hf : n ≤ 50) (he : ∀ i, i < l.length → (l.getD i noShr).c.length ≤ 100 ∧ -2000000000000 ≤ (l.getD i noShr).part ∧ (l.getD i noShr).part ≤ 2000000000000) : ∃ a c, v = .slice a n c ∧ n ≤ c ∧ ShrRow w a n l := by
  obtain ⟨a, c, rfl, hcs⟩ := Cells.of_own h (fun x hx => by obtain ⟨y, _, rfl⟩ := List.mem_map.1 hx; rfl) (by decide)
  exact ⟨a, c, rfl, (own_caps h).2, ⟨hcs, hf, he⟩⟩
structure RcdRow (w : World) (a : Option Addr) (n : Nat) (l : List Rcd) : Prop where
  cells : Cells w 8 a n (l.map Rcd.cells)
  few : n ≤ 100
  each : ∀ i, i < l.length → (l.getD i noRcd).id.length ≤ 100 ∧ (l.getD i noRcd).fr.length ≤ 100 ∧ (l.getD i noRcd).to_.length ≤ 100 ∧ (l.getD i noRcd).carrier.length ≤ 100 ∧ (-2000000000000 ≤ (l.getD i noRcd).at_ ∧ (l.getD i noRcd).at_ ≤ 2000000000000) ∧ (-2000000000000 ≤ (l.getD i noRcd).ring ∧ (l.getD i noRcd).ring ≤ 2000000000000) ∧ (-2000000000000 ≤ (l.getD i noRcd).talk ∧ (l.getD i noRcd).talk ≤ 2000000000000) ∧ (-2000000000000 ≤ (l.getD i noRcd).how ∧ (l.getD i noRcd).how ≤ 2000000000000)
theorem RcdRow.below {w w' : World} {a : Option Addr} {n : Nat} {l : List Rcd} (h : RcdRow w a n l) (hb : Below w.heap.size w w') : RcdRow w' a n l := ⟨h.cells.below hb, h.few, h.each⟩
theorem RcdRow.len {w : World} {a : Option Addr} {n : Nat} {l : List Rcd} (h : RcdRow w a n l) : n = l.length := by have := h.cells.len; simpa using this
theorem RcdRow.at {w : World} {a : Option Addr} {n : Nat} {l : List Rcd} (h : RcdRow w a n l) (hn : 0 < n) : ∃ b off, a = some ⟨b, off, none⟩ ∧ b < w.heap.size ∧ ∀ i, i < n → w.cell? ⟨b, off + i * 8, none⟩ = some (.string ⟨(l.getD i noRcd).id.toArray⟩) ∧ w.cell? ⟨b, off + i * 8 + 1, none⟩ = some (.string ⟨(l.getD i noRcd).fr.toArray⟩) ∧ w.cell? ⟨b, off + i * 8 + 2, none⟩ = some (.string ⟨(l.getD i noRcd).to_.toArray⟩) ∧ w.cell? ⟨b, off + i * 8 + 3, none⟩ = some (.int .i64 (l.getD i noRcd).at_) ∧ w.cell? ⟨b, off + i * 8 + 4, none⟩ = some (.int .i64 (l.getD i noRcd).ring) ∧ w.cell? ⟨b, off + i * 8 + 5, none⟩ = some (.int .i64 (l.getD i noRcd).talk) ∧ w.cell? ⟨b, off + i * 8 + 6, none⟩ = some (.int .i64 (l.getD i noRcd).how) ∧ w.cell? ⟨b, off + i * 8 + 7, none⟩ = some (.string ⟨(l.getD i noRcd).carrier.toArray⟩) := by
  have hl := h.len
  rcases h.cells.row with h0 | ⟨b, off, ha, hb, hc⟩
  · omega
  · refine ⟨b, off, ha, hb, fun i hi => ?_⟩
    have k0 := hc i hi 0 (by omega)
    have k1 := hc i hi 1 (by omega)
    have k2 := hc i hi 2 (by omega)
    have k3 := hc i hi 3 (by omega)
    have k4 := hc i hi 4 (by omega)
    have k5 := hc i hi 5 (by omega)
    have k6 := hc i hi 6 (by omega)
    have k7 := hc i hi 7 (by omega)
    rw [getD_map Rcd.cells l i noRcd [] (by omega)] at k0 k1 k2 k3 k4 k5 k6 k7
    exact ⟨k0, k1, k2, k3, k4, k5, k6, k7⟩
theorem RcdRow.of_own {w : World} {base : Nat} {e : TypeId} {v : Value} {n : Nat} {l : List Rcd} (h : w.ownsRow base e 8 v n ((l.map Rcd.cells).flatten)) (hf : n ≤ 100) (he : ∀ i, i < l.length → (l.getD i noRcd).id.length ≤ 100 ∧ (l.getD i noRcd).fr.length ≤ 100 ∧ (l.getD i noRcd).to_.length ≤ 100 ∧ (l.getD i noRcd).carrier.length ≤ 100 ∧ (-2000000000000 ≤ (l.getD i noRcd).at_ ∧ (l.getD i noRcd).at_ ≤ 2000000000000) ∧ (-2000000000000 ≤ (l.getD i noRcd).ring ∧ (l.getD i noRcd).ring ≤ 2000000000000) ∧ (-2000000000000 ≤ (l.getD i noRcd).talk ∧ (l.getD i noRcd).talk ≤ 2000000000000) ∧ (-2000000000000 ≤ (l.getD i noRcd).how ∧ (l.getD i noRcd).how ≤ 2000000000000)) : ∃ a c, v = .slice a n c ∧ n ≤ c ∧ RcdRow w a n l := by
  obtain ⟨a, c, rfl, hcs⟩ := Cells.of_own h (fun x hx => by obtain ⟨y, _, rfl⟩ := List.mem_map.1 hx; rfl) (by decide)
  exact ⟨a, c, rfl, (own_caps h).2, ⟨hcs, hf, he⟩⟩
end Go.Proofs.YtamoclofloijpaaGreatDoor

set_option linter.unusedVariables false
set_option linter.unusedSimpArgs false
namespace Go.Proofs.YtamoclofloijpaaGreatDoor
open Go.RowKit

theorem range_gen (S k : Nat) (lo hi : Int) (w : World) (h : StreamOk w S k) (hk : k ≤ 1000000000) (h2 : -4611686018427387904 ≤ lo) (h3 : hi ≤ 4611686018427387000) :
    Calls Tryz.prog 6 #[.pointer (some ⟨S, 0, none⟩), .int .i64 lo, .int .i64 hi] w (PickPost S (k + 1) (fun r => lo ≤ r ∧ (r ≤ lo ∨ r ≤ hi)) w) := by
  by_cases hlt : hi < lo
  · have HS := Lib.hid (h.mono (Nat.le_succ _))
    clear h
    go_enter Tryz.func6, Tryz.ntmps6
    go_wp2_with fail
    go_ret
    exact ⟨lo, rfl, ⟨Int.le_refl _, Or.inl (Int.le_refl _)⟩, HS.out, Keeps.refl _ _⟩
  · refine (range_any S k lo hi w h hk (by omega) h2 h3).mono ?_
    rintro e w' ⟨r, rfl, r0, r1, hst, hkp⟩
    exact ⟨r, rfl, ⟨r0, Or.inr r1⟩, hst, hkp⟩

set_option maxRecDepth 100000 in
theorem odd_any (S k : Nat) (lo hi : Int) (w : World) (h : StreamOk w S k) (hk : k ≤ 100000000) (h0 : 0 ≤ lo) (h1 : lo ≤ hi) (h2 : hi ≤ 400000000000) :
    Calls Tryz.prog 52 #[.pointer (some ⟨S, 0, none⟩), .int .i64 lo, .int .i64 hi] w (PickPost S (k + 2) (fun r => -1099511627776 ≤ r ∧ r ≤ 1099511627776) w) := by
  have HS := Lib.hid h
  have hlt := h.lt
  clear h
  go_enter Tryz.func52, Tryz.ntmps52
  go_wp2_with fail
  refine (flip_any S k 12 _ HS.out (by omega) (by decide) (by decide)).mono ?_
  rintro e w1 ⟨r, rfl, hst, hkp⟩
  have HS1 := Lib.hid hst
  have HK1 := Lib.hid hkp
  have hl1 := hst.lt
  clear hst hkp
  cases r
  · go_wp2_with fail
    refine (range_any S (k + 1) lo hi _ HS1.out (by omega) h1 (by omega) (by omega)).mono ?_
    rintro e w2 ⟨r, rfl, r0, r1, hst2, hkp2⟩
    have HK2 := Lib.hid (HK1.out.trans hkp2)
    have HS2 := Lib.hid hst2
    clear hst2 hkp2
    go_wp2_with fail
    go_ret
    exact ⟨r, rfl, ⟨by omega, by omega⟩, HS2.out, HK2.out⟩
  · go_wp2_with fail
    refine (pick_any S (k + 1) w1.heap.size 6 6 [lo - 1, hi + 1, lo, hi, -1099511627776, 1099511627776] (fun r => -1099511627776 ≤ r ∧ r ≤ 1099511627776) _ (HS1.out.below (ext_alloc (Below.refl _ _))) (by omega) (by simp) (by omega) (by omega) (by omega) (fun i h9 => by match i, h9 with | 0, _ | 1, _ | 2, _ | 3, _ | 4, _ | 5, _ => go_simp) (fun i h9 => by match i, h9 with | 0, _ => exact ⟨by show _ ≤ lo - 1; omega, by show lo - 1 ≤ _; omega⟩ | 1, _ => exact ⟨by show _ ≤ hi + 1; omega, by show hi + 1 ≤ _; omega⟩ | 2, _ => exact ⟨by show _ ≤ lo; omega, by show lo ≤ _; omega⟩ | 3, _ => exact ⟨by show _ ≤ hi; omega, by show hi ≤ _; omega⟩ | 4, _ => exact ⟨by show (-1099511627776 : Int) ≤ -1099511627776; decide, by show (-1099511627776 : Int) ≤ 1099511627776; decide⟩ | 5, _ => exact ⟨by show (-1099511627776 : Int) ≤ 1099511627776; decide, by show (1099511627776 : Int) ≤ 1099511627776; decide⟩)).mono ?_
    rintro e w2 ⟨r, rfl, hr, hst2, hkp2⟩
    have HK2 := Lib.hid ((HK1.out.alloc _).trans hkp2)
    have HS2 := Lib.hid hst2
    have HR := Lib.hid hr
    clear hst2 hkp2 hr
    go_wp2_with fail
    go_ret
    exact ⟨r, rfl, HR.out, HS2.out, HK2.out⟩

/-! ### Plans in memory that may be written -/
/-- Country i of a plan in block P, with its areas in a block of their own. -/
structure CtryAt (S P : Nat) (base : Nat) (w : World) (i : Nat) (c : Ctry) (b : Nat) : Prop where
  cells : ∀ j, j < 4 → w.cell? ⟨P, i * 4 + j, none⟩ = c.cells[j]?
  fine : CtryFine w c
  some : 1 ≤ c.an
  at_ : c.aa = Option.some ⟨b, 0, none⟩
  off : b ≠ S
  offP : b ≠ P
  lt : b < w.heap.size
  new : base ≤ b
  fro : ∀ j, w.frozen? ⟨b, j, none⟩ = false
structure PlanAt (S P : Nat) (base : Nat) (w : World) (l : List Ctry) (bs : List Nat) : Prop where
  len : l.length = 3
  each : ∀ i, i < 3 → CtryAt S P base w i (l.getD i noCtry) (bs.getD i 0)
  offS : P ≠ S
  lt : P < w.heap.size
  new : base ≤ P
  fro : ∀ j, w.frozen? ⟨P, j, none⟩ = false

def areaCells (l : List Area) : List Value := l.flatMap Area.cells
/-- A plan that a stream has handed out. -/
def PlanPost (S k : Nat) (w : World) (e : Ending) (w' : World) : Prop :=
  ∃ (P : Nat) (l : List Ctry), e = .returned (.slice (some ⟨P, 0, none⟩) 3 3) ∧ (∀ w9, Keeps S w' w9 → CtryRow w9 (some ⟨P, 0, none⟩) 3 l) ∧ (∀ i, i < l.length → 1 ≤ (l.getD i noCtry).an) ∧ StreamOk w' S k ∧ Keeps S w w'

theorem AreaRow.keeps {S : Nat} {w w' : World} {b n : Nat} {l : List Area} (h : AreaRow w (some ⟨b, 0, none⟩) n l) (hb : b ≠ S) (hk : Keeps S w w') : AreaRow w' (some ⟨b, 0, none⟩) n l := by
  refine ⟨h.len, h.row.imp id ?_⟩
  rintro ⟨b9, off, ha, hl, hc⟩
  injection ha with ha
  injection ha with e1 e2
  subst e1 e2
  exact ⟨b, 0, rfl, Nat.lt_of_lt_of_le hl hk.size, fun i hi j hj => (hk.cell (p := ⟨b, 0 + i * 3 + j, none⟩) hl hb).trans (hc i hi j hj)⟩
theorem CtryAt.keeps {S P base : Nat} {w w' : World} {i : Nat} {c : Ctry} {b : Nat} (h : CtryAt S P base w i c b) (hP : P < w.heap.size) (hS : P ≠ S) (hk : Keeps S w w') : CtryAt S P base w' i c b :=
  ⟨fun j hj => (hk.cell (p := ⟨P, i * 4 + j, none⟩) hP hS).trans (h.cells j hj), ⟨h.fine.code, h.fine.abroad, h.fine.trunk, h.fine.many, by have := h.fine.row; rw [h.at_] at this ⊢; exact this.keeps h.off hk, h.fine.each⟩, h.some, h.at_, h.off, h.offP, Nat.lt_of_lt_of_le h.lt hk.size, h.new, fun j => (hk.frozen (p := ⟨b, j, none⟩) h.lt h.off).trans (h.fro j)⟩
theorem PlanAt.keeps {S P base : Nat} {w w' : World} {l : List Ctry} {bs : List Nat} (h : PlanAt S P base w l bs) (hk : Keeps S w w') : PlanAt S P base w' l bs :=
  ⟨h.len, fun i hi => (h.each i hi).keeps h.lt h.offS hk, h.offS, Nat.lt_of_lt_of_le h.lt hk.size, h.new, fun j => (hk.frozen (p := ⟨P, j, none⟩) h.lt h.offS).trans (h.fro j)⟩
theorem PlanAt.row {S P base : Nat} {w : World} {l : List Ctry} {bs : List Nat} (h : PlanAt S P base w l bs) : CtryRow w (some ⟨P, 0, none⟩) 3 l :=
  ⟨h.len.symm, by omega, Or.inr ⟨P, 0, rfl, h.lt, fun i hi j hj => by rw [Nat.zero_add]; exact (h.each i hi).cells j hj⟩, fun i hi => (h.each i (by rw [h.len] at hi; exact hi)).fine⟩
theorem PlanAt.post {S P k : Nat} {w w' : World} {l : List Ctry} {bs : List Nat} {base : Nat} (h : PlanAt S P base w' l bs) (hs : StreamOk w' S k) (hk : Keeps S w w') : PlanPost S k w (.returned (.slice (some ⟨P, 0, none⟩) 3 3)) w' :=
  ⟨P, l, rfl, fun w9 h9 => (h.keeps h9).row, fun i hi => (h.each i (by rw [h.len] at hi; exact hi)).some, hs, hk⟩

/-- One area, written out. -/
def ar (p : List UInt8) (lo hi : Int) : Area := ⟨p, lo, hi⟩
theorem area_row2 {w : World} {b : Nat} {x y : Area} (hb : b < w.heap.size) (h : ∀ j v, ((x.cells ++ y.cells) : List Value)[j]? = some v → w.cell? ⟨b, j, none⟩ = some v) : AreaRow w (some ⟨b, 0, none⟩) 2 [x, y] := by
  refine ⟨rfl, Or.inr ⟨b, 0, rfl, hb, fun i hi j hj => ?_⟩⟩
  match i, hi, j, hj with
  | 0, _, 0, _ => exact h 0 _ rfl
  | 0, _, 1, _ => exact h 1 _ rfl
  | 0, _, 2, _ => exact h 2 _ rfl
  | 1, _, 0, _ => exact h 3 _ rfl
  | 1, _, 1, _ => exact h 4 _ rfl
  | 1, _, 2, _ => exact h 5 _ rfl
theorem area_row3 {w : World} {b : Nat} {x y z : Area} (hb : b < w.heap.size) (h : ∀ j v, ((x.cells ++ y.cells ++ z.cells) : List Value)[j]? = some v → w.cell? ⟨b, j, none⟩ = some v) : AreaRow w (some ⟨b, 0, none⟩) 3 [x, y, z] := by
  refine ⟨rfl, Or.inr ⟨b, 0, rfl, hb, fun i hi j hj => ?_⟩⟩
  match i, hi, j, hj with
  | 0, _, 0, _ => exact h 0 _ rfl
  | 0, _, 1, _ => exact h 1 _ rfl
  | 0, _, 2, _ => exact h 2 _ rfl
  | 1, _, 0, _ => exact h 3 _ rfl
  | 1, _, 1, _ => exact h 4 _ rfl
  | 1, _, 2, _ => exact h 5 _ rfl
  | 2, _, 0, _ => exact h 6 _ rfl
  | 2, _, 1, _ => exact h 7 _ rfl
  | 2, _, 2, _ => exact h 8 _ rfl

theorem heap_new (w : World) (o : Obj) : (w.alloc o).heap[w.heap.size]? = some o := by unfold World.alloc; simp
theorem block_cell {w : World} {b : Nat} {cs : Array Value} {t : TypeId} (h : w.heap[b]? = some (.cells cs t)) (j : Nat) : w.cell? ⟨b, j, none⟩ = cs[j]? := by simp [World.cell?, h]
theorem block_fro {w : World} {b : Nat} {cs : Array Value} {t : TypeId} (h : w.heap[b]? = some (.cells cs t)) (j : Nat) : w.frozen? ⟨b, j, none⟩ = false := by simp [World.frozen?, h]

end Go.Proofs.YtamoclofloijpaaGreatDoor

set_option linter.unusedVariables false
set_option linter.unusedSimpArgs false
namespace Go.Proofs.YtamoclofloijpaaGreatDoor
open Go.RowKit

theorem pick_lit (S k : Nat) (vals : List Int) (P : Int → Prop) (w : World) (cs : Array Value) (n : Nat) (h : StreamOk w S k) (hk : k ≤ 1000000000) (hcs : cs.toList = vals.map (Value.int .i64)) (hn : n = vals.length) (h1 : 1 ≤ vals.length) (h2 : vals.length ≤ 1000) (hP : ∀ x ∈ vals, P x) :
    Calls Tryz.prog 50 #[.pointer (some ⟨S, 0, none⟩), .slice (some ⟨w.heap.size, 0, none⟩) n n] (w.alloc (.cells cs 3)) (PickPost S (k + 1) P w) := by
  have hl := h.lt
  subst hn
  have hcs' : cs = (vals.map (Value.int .i64)).toArray := by rw [← hcs]
  subst hcs'
  refine (pick_any S k w.heap.size vals.length vals.length vals P _ (h.below (ext_alloc (Below.refl _ _))) hk (by simp) (by omega) h1 h2 (fun i hi => ?_) (fun i hi => ?_)).mono ?_
  · exact (new_cell w _ 3 (0, 0) i).trans (by simp [hi])
  · rw [show vals.getD i _ = vals[i] by simp [hi]]
    exact hP _ (List.getElem_mem hi)
  · rintro e w' ⟨r, rfl, hr, hst, hkp⟩
    exact ⟨r, rfl, hr, hst, (Keeps.of_below (ext_alloc (Below.refl _ _))).trans hkp⟩
theorem some_lit (S k : Nat) (vals : List (List UInt8)) (P : List UInt8 → Prop) (w : World) (cs : Array Value) (n : Nat) (h : StreamOk w S k) (hk : k ≤ 1000000000) (hcs : cs.toList = vals.map fun s => Value.string ⟨s.toArray⟩) (hn : n = vals.length) (h1 : 1 ≤ vals.length) (h2 : vals.length ≤ 1000) (hP : ∀ x ∈ vals, P x) :
    Calls Tryz.prog 49 #[.pointer (some ⟨S, 0, none⟩), .slice (some ⟨w.heap.size, 0, none⟩) n n] (w.alloc (.cells cs 9)) (SomePost S (k + 1) P w) := by
  have hl := h.lt
  subst hn
  have hcs' : cs = (vals.map fun s => Value.string ⟨s.toArray⟩).toArray := by rw [← hcs]
  subst hcs'
  refine (some_any S k w.heap.size vals.length vals.length vals P _ (h.below (ext_alloc (Below.refl _ _))) hk (by simp) (by omega) h1 h2 (fun i hi => ?_) (fun i hi => ?_)).mono ?_
  · exact (new_cell w _ 9 (0, 0) i).trans (by simp [hi])
  · rw [show vals.getD i _ = vals[i] by simp [hi]]
    exact hP _ (List.getElem_mem hi)
  · rintro e w' ⟨r, rfl, hr, hst, hkp⟩
    exact ⟨r, rfl, hr, hst, (Keeps.of_below (ext_alloc (Below.refl _ _))).trans hkp⟩

theorem bs_p6 (e : Operand → Value) (he : ∀ v, e (.const v) = v) (o : Oper) (w : World) (ho : o.op = .buildSlice 22 6 #[(0, .const (.int .i64 0)), (1, .const (.int .i64 0)), (2, .const (.int .i64 1)), (3, .const (.int .i64 9)), (4, .const (.int .i64 99)), (5, .const (.int .i64 300))]) :
   (execOp e o).run Tryz.prog w = .ok (.value (.slice (some ⟨w.heap.size, 0, none⟩) 6 6)) (w.alloc (.cells #[.int .i64 0, .int .i64 0, .int .i64 1, .int .i64 9, .int .i64 99, .int .i64 300] 3)) := by
  unfold execOp
  rw [ho]
  simp only [List.map_toArray, List.map_cons, List.map_nil, he]
  kernel_rfl
theorem bs_p5 (e : Operand → Value) (he : ∀ v, e (.const v) = v) (o : Oper) (w : World) (ho : o.op = .buildSlice 22 5 #[(0, .const (.int .i64 2)), (1, .const (.int .i64 2)), (2, .const (.int .i64 3)), (3, .const (.int .i64 10)), (4, .const (.int .i64 50))]) :
   (execOp e o).run Tryz.prog w = .ok (.value (.slice (some ⟨w.heap.size, 0, none⟩) 5 5)) (w.alloc (.cells #[.int .i64 2, .int .i64 2, .int .i64 3, .int .i64 10, .int .i64 50] 3)) := by
  unfold execOp
  rw [ho]
  simp only [List.map_toArray, List.map_cons, List.map_nil, he]
  kernel_rfl
theorem bs_p3 (e : Operand → Value) (he : ∀ v, e (.const v) = v) (o : Oper) (w : World) (ho : o.op = .buildSlice 22 3 #[(0, .const (.int .i64 1)), (1, .const (.int .i64 10)), (2, .const (.int .i64 50))]) :
   (execOp e o).run Tryz.prog w = .ok (.value (.slice (some ⟨w.heap.size, 0, none⟩) 3 3)) (w.alloc (.cells #[.int .i64 1, .int .i64 10, .int .i64 50] 3)) := by
  unfold execOp
  rw [ho]
  simp only [List.map_toArray, List.map_cons, List.map_nil, he]
  kernel_rfl
theorem bs_inst (e : Operand → Value) (he : ∀ v, e (.const v) = v) (o : Oper) (w : World) (i8 i9 i10 : Nat) (z8 z9 z10 : Int) (ho : o.op = .buildSlice 22 11 #[(0, .const (.int .i64 0)), (1, .const (.int .i64 5)), (2, .const (.int .i64 10)), (3, .const (.int .i64 20)), (4, .const (.int .i64 30)), (5, .const (.int .i64 40)), (6, .const (.int .i64 60)), (7, .const (.int .i64 100)), (8, .tmp i8), (9, .tmp i9), (10, .tmp i10)]) (h8 : e (.tmp i8) = .int .i64 z8) (h9 : e (.tmp i9) = .int .i64 z9) (h10 : e (.tmp i10) = .int .i64 z10) :
   (execOp e o).run Tryz.prog w = .ok (.value (.slice (some ⟨w.heap.size, 0, none⟩) 11 11)) (w.alloc (.cells #[.int .i64 0, .int .i64 5, .int .i64 10, .int .i64 20, .int .i64 30, .int .i64 40, .int .i64 60, .int .i64 100, .int .i64 z8, .int .i64 z9, .int .i64 z10] 3)) := by
  unfold execOp
  rw [ho]
  simp only [List.map_toArray, List.map_cons, List.map_nil, he, h8, h9, h10]
  kernel_rfl

end Go.Proofs.YtamoclofloijpaaGreatDoor

set_option linter.unusedVariables false
set_option linter.unusedSimpArgs false
namespace Go.Proofs.YtamoclofloijpaaGreatDoor
open Go.RowKit

theorem own_set {w : World} {base : Nat} {e : TypeId} {size : Nat} {v : Value} {n : Nat} {xs : List Value} (h : w.ownsRow base e size v n xs) {p : Addr} {u : Value} (hp : v.ownBlock ≠ some p.block) : (w.setCell p u).ownsRow base e size v n xs :=
  own_if h (KeepsIf.set (p := fun b => v.ownBlock = some b) (fun b e e' => hp (by rw [e']; exact e))) (fun b e => e)
theorem ne_off {B i j : Nat} (h : i ≠ j) : (⟨B, i, none⟩ : Addr) ≠ ⟨B, j, none⟩ := by intro e; injection e with _ e2 _; exact h e2
theorem ne_blk {B C i j : Nat} (h : B ≠ C) : (⟨B, i, none⟩ : Addr) ≠ ⟨C, j, none⟩ := by intro e; injection e with e1 _ _; exact h e1
theorem box_th {w : World} {B : Nat} {vs : Array Value} {ty : TypeId} (h : w.heap[B]? = some (.cells vs ty (0, 0))) : w.there B 0 vs.size := fun j hj => by
  refine ⟨?_, ?_⟩
  · simp [World.cell?, h, hj]
  · simp [World.frozen?, h]
/-- A place of n cells that can be written. -/
structure Room (w : World) (F n : Nat) : Prop where
  lt : F < w.heap.size
  th : w.there F 0 n
theorem Room.keeps {w w' : World} {F n S : Nat} (h : Room w F n) (hk : Keeps S w w') (hn : F ≠ S) : Room w' F n :=
  ⟨Nat.lt_of_lt_of_le h.lt hk.size, fun j hj => by
    obtain ⟨h1, h2⟩ := h.th j hj
    exact ⟨by rw [hk.cell (p := ⟨F, 0 + j, none⟩) h.lt hn]; exact h1, by rw [hk.frozen (p := ⟨F, 0 + j, none⟩) h.lt hn]; exact h2⟩⟩
theorem Room.below {w w' : World} {F n : Nat} (h : Room w F n) (hb : Below w.heap.size w w') : Room w' F n :=
  ⟨Nat.lt_of_lt_of_le h.lt hb.size, fun j hj => by
    obtain ⟨h1, h2⟩ := h.th j hj
    exact ⟨by rw [hb.cell (p := ⟨F, 0 + j, none⟩) h.lt]; exact h1, by rw [hb.frozen (p := ⟨F, 0 + j, none⟩) h.lt]; exact h2⟩⟩
theorem Room.grown {w w' : World} {F n : Nat} {row : Option Nat} (h : Room w F n) (hg : w.grownBy w' row) (hn : row ≠ some F) : Room w' F n :=
  ⟨Nat.lt_of_lt_of_le h.lt hg.size, fun j hj => by
    obtain ⟨h1, h2⟩ := h.th j hj
    have hb := hg.block F h.lt (fun e => hn e.symm)
    exact ⟨by rw [World.cell?_of_block (a := ⟨F, 0 + j, none⟩) hb]; exact h1, by rw [World.frozen?_of_block (a := ⟨F, 0 + j, none⟩) hb]; exact h2⟩⟩
theorem Room.set {w : World} {F n : Nat} (h : Room w F n) (B o : Nat) (u : Value) : Room (w.setCell ⟨B, o, none⟩ u) F n :=
  ⟨by simpa using h.lt, World.there_setCells h.th B o [u]⟩
theorem below_setCells {S F : Nat} (hS : S ≤ F) : ∀ (vs : List Value) (w : World) (k : Nat), Below S w (w.setCells F k vs)
  | [], w, k => Below.refl _ _
  | v :: vs, w, k => ((Below.refl S w).setCell (p := ⟨F, k, none⟩) hS v).trans (below_setCells hS vs (w.setCell ⟨F, k, none⟩ v) (k + 1))
theorem keeps_setCells {S F : Nat} {a : World} (hF : a.heap.size ≤ F) : ∀ (vs : List Value) (w : World) (k : Nat), Keeps S a w → Keeps S a (w.setCells F k vs)
  | [], w, k, h => h
  | v :: vs, w, k, h => keeps_setCells hF vs (w.setCell ⟨F, k, none⟩ v) (k + 1) (h.setCell_new hF v)
/-- Names in a row. -/
structure Names (w : World) (A n : Nat) (names : List (List UInt8)) : Prop where
  lt : A < w.heap.size
  at_ : ∀ i, i < n → w.cell? ⟨A, i, none⟩ = some (.string ⟨(names.getD i []).toArray⟩)
theorem Names.keeps {w w' : World} {A n S : Nat} {names : List (List UInt8)} (h : Names w A n names) (hk : Keeps S w w') (hn : A ≠ S) : Names w' A n names :=
  ⟨Nat.lt_of_lt_of_le h.lt hk.size, fun i hi => (hk.cell (p := ⟨A, i, none⟩) h.lt hn).trans (h.at_ i hi)⟩
theorem Names.grown {w w' : World} {A n : Nat} {names : List (List UInt8)} {row : Option Nat} (h : Names w A n names) (hg : w.grownBy w' row) (hn : row ≠ some A) : Names w' A n names :=
  ⟨Nat.lt_of_lt_of_le h.lt hg.size, fun i hi => (World.cell?_of_block (a := ⟨A, i, none⟩) (hg.block A h.lt (fun e => hn e.symm))).trans (h.at_ i hi)⟩
theorem Names.set {w : World} {A n : Nat} {names : List (List UInt8)} (h : Names w A n names) {B o : Nat} (hn : B ≠ A) (u : Value) : Names (w.setCell ⟨B, o, none⟩ u) A n names :=
  ⟨by simpa using h.lt, fun i hi => (World.cell?_setCell_other _ _ _ _ (ne_blk hn)).trans (h.at_ i hi)⟩
theorem names_new (W : World) (names : List (List UInt8)) (cs : Array Value) (hcs : cs.toList = names.map fun s => Value.string ⟨s.toArray⟩) (n : Nat) (hn : n = names.length) : Names (W.alloc (.cells cs 9)) W.heap.size n names := by
  subst hn
  have hcs' : cs = (names.map fun s => Value.string ⟨s.toArray⟩).toArray := by rw [← hcs]
  subst hcs'
  exact ⟨by simp, fun i hi => (new_cell W _ 9 (0, 0) i).trans (by simp [hi])⟩
theorem wp_skip {P : Program} {o : Oper} {a : Act} {w w' : World} {K : Act → World → Prop} {Q : Exit → Act → World → Prop} (h : (execOp a.eval o).run P w = .ok .skip w') (hK : K (a.put o.dst undef) w') : o.wp P a w K Q := by
  unfold Oper.wp
  rw [h]
  exact hK
theorem wp_append_own_at {P : Program} {w : World} {o : Oper} {a : Act} {K : Act → World → Prop} {Q : Exit → Act → World → Prop} (s x : Operand) (t : TypeId)
    (ho : o.op = .call { callee := .builtin .append, args := #[s, x], argTypes := #[t, t] })
    (base : Nat) (e : TypeId) (i : TypeInfo) (z : Value) (size bytes : Nat) (ht : P.underlying t = some (.slice e)) (hi : P.info? e = some i) (hz : i.zero = some z)
    (hsize : i.size = size) (hby : i.bytes = bytes) (hzs : z.cells.size = size) (hsz : 0 < size)
    (v : Value) (n : Nat) (xs : List Value) (hs : a.eval s = v) (hown : w.ownsRow base e size v n xs)
    (ad : Addr) (m c : Nat) (news : List Value) (hx : a.eval x = .slice (some ad) m c) (hl : news.length = m * size) (hnews : ∀ j u, news[j]? = some u → w.cell? (ad.add j) = some u) (h1 : ∀ u ∈ news, u.oneCell' = true)
    (h63 : n + m ≤ maxLen) (hbytes : (n + m) * bytes ≤ 140737488355328) (hbase : base ≤ w.heap.size)
    (h : ∀ v' w', w'.ownsRow base e size v' (n + m) (xs ++ news) → w.grownBy w' v.ownBlock → (v'.ownBlock = v.ownBlock ∨ v'.ownBlock = some w.heap.size) → K (a.put o.dst v') w') : o.wp P a w K Q := by
  obtain ⟨v', w', hr, k1, k2, _, k3⟩ := run_append_own_at (P := P) w base t o.type e i z size bytes ht hi hz hsize hby hzs hsz v n xs hown ad m c news hl hnews h1 h63 hbytes hbase
  unfold Oper.wp execOp
  simp only [ho, resolve, invoke, builtin, Sem.run_bind, Sem.run_pure, Result.andThen_ok, List.map_toArray, List.map_cons, List.map_nil, hs, hx, hr]
  exact h v' w' k1 k2 k3
/-- A deck in a box of its own. -/
structure DBox (w : World) (D : Nat) (f s l st : Int) (v : Value) : Prop where
  lt : D < w.heap.size
  c0 : w.cell? ⟨D, 0, none⟩ = some (.int .i64 f)
  c1 : w.cell? ⟨D, 1, none⟩ = some (.int .i64 s)
  c2 : w.cell? ⟨D, 2, none⟩ = some (.int .i64 l)
  c3 : w.cell? ⟨D, 3, none⟩ = some (.int .i64 st)
  c4 : w.cell? ⟨D, 4, none⟩ = some v
  fr : ∀ j, w.frozen? ⟨D, j, none⟩ = false
theorem DBox.keeps {w w' : World} {D S : Nat} {f s l st : Int} {v : Value} (h : DBox w D f s l st v) (hk : Keeps S w w') (hn : D ≠ S) : DBox w' D f s l st v :=
  ⟨Nat.lt_of_lt_of_le h.lt hk.size, (hk.cell (p := ⟨D, 0, none⟩) h.lt hn).trans h.c0, (hk.cell (p := ⟨D, 1, none⟩) h.lt hn).trans h.c1, (hk.cell (p := ⟨D, 2, none⟩) h.lt hn).trans h.c2, (hk.cell (p := ⟨D, 3, none⟩) h.lt hn).trans h.c3, (hk.cell (p := ⟨D, 4, none⟩) h.lt hn).trans h.c4, fun j => (hk.frozen (p := ⟨D, j, none⟩) h.lt hn).trans (h.fr j)⟩
theorem DBox.grown {w w' : World} {D : Nat} {f s l st : Int} {v : Value} {row : Option Nat} (h : DBox w D f s l st v) (hg : w.grownBy w' row) (hn : row ≠ some D) : DBox w' D f s l st v := by
  have hb := hg.block D h.lt (fun e => hn e.symm)
  exact ⟨Nat.lt_of_lt_of_le h.lt hg.size, (World.cell?_of_block (a := ⟨D, 0, none⟩) hb).trans h.c0, (World.cell?_of_block (a := ⟨D, 1, none⟩) hb).trans h.c1, (World.cell?_of_block (a := ⟨D, 2, none⟩) hb).trans h.c2, (World.cell?_of_block (a := ⟨D, 3, none⟩) hb).trans h.c3, (World.cell?_of_block (a := ⟨D, 4, none⟩) hb).trans h.c4, fun j => (World.frozen?_of_block (a := ⟨D, j, none⟩) hb).trans (h.fr j)⟩
theorem DBox.far {w : World} {D : Nat} {f s l st : Int} {v : Value} (h : DBox w D f s l st v) {B o : Nat} (hn : B ≠ D) (u : Value) : DBox (w.setCell ⟨B, o, none⟩ u) D f s l st v :=
  ⟨by simpa using h.lt, (World.cell?_setCell_other _ _ _ _ (ne_blk hn)).trans h.c0, (World.cell?_setCell_other _ _ _ _ (ne_blk hn)).trans h.c1, (World.cell?_setCell_other _ _ _ _ (ne_blk hn)).trans h.c2, (World.cell?_setCell_other _ _ _ _ (ne_blk hn)).trans h.c3, (World.cell?_setCell_other _ _ _ _ (ne_blk hn)).trans h.c4, fun j => (World.frozen?_setCell _ _ _ _).trans (h.fr j)⟩
theorem DBox.s0 {w : World} {D : Nat} {f s l st : Int} {v : Value} (h : DBox w D f s l st v) (z : Int) : DBox (w.setCell ⟨D, 0, none⟩ (.int .i64 z)) D z s l st v :=
  ⟨by simpa using h.lt, World.cell?_setCell_same _ _ _ h.c0, (World.cell?_setCell_other _ _ _ _ (ne_off (by decide))).trans h.c1, (World.cell?_setCell_other _ _ _ _ (ne_off (by decide))).trans h.c2, (World.cell?_setCell_other _ _ _ _ (ne_off (by decide))).trans h.c3, (World.cell?_setCell_other _ _ _ _ (ne_off (by decide))).trans h.c4, fun j => (World.frozen?_setCell _ _ _ _).trans (h.fr j)⟩
theorem DBox.s1 {w : World} {D : Nat} {f s l st : Int} {v : Value} (h : DBox w D f s l st v) (z : Int) : DBox (w.setCell ⟨D, 1, none⟩ (.int .i64 z)) D f z l st v :=
  ⟨by simpa using h.lt, (World.cell?_setCell_other _ _ _ _ (ne_off (by decide))).trans h.c0, World.cell?_setCell_same _ _ _ h.c1, (World.cell?_setCell_other _ _ _ _ (ne_off (by decide))).trans h.c2, (World.cell?_setCell_other _ _ _ _ (ne_off (by decide))).trans h.c3, (World.cell?_setCell_other _ _ _ _ (ne_off (by decide))).trans h.c4, fun j => (World.frozen?_setCell _ _ _ _).trans (h.fr j)⟩
theorem DBox.s2 {w : World} {D : Nat} {f s l st : Int} {v : Value} (h : DBox w D f s l st v) (z : Int) : DBox (w.setCell ⟨D, 2, none⟩ (.int .i64 z)) D f s z st v :=
  ⟨by simpa using h.lt, (World.cell?_setCell_other _ _ _ _ (ne_off (by decide))).trans h.c0, (World.cell?_setCell_other _ _ _ _ (ne_off (by decide))).trans h.c1, World.cell?_setCell_same _ _ _ h.c2, (World.cell?_setCell_other _ _ _ _ (ne_off (by decide))).trans h.c3, (World.cell?_setCell_other _ _ _ _ (ne_off (by decide))).trans h.c4, fun j => (World.frozen?_setCell _ _ _ _).trans (h.fr j)⟩
theorem DBox.s3 {w : World} {D : Nat} {f s l st : Int} {v : Value} (h : DBox w D f s l st v) (z : Int) : DBox (w.setCell ⟨D, 3, none⟩ (.int .i64 z)) D f s l z v :=
  ⟨by simpa using h.lt, (World.cell?_setCell_other _ _ _ _ (ne_off (by decide))).trans h.c0, (World.cell?_setCell_other _ _ _ _ (ne_off (by decide))).trans h.c1, (World.cell?_setCell_other _ _ _ _ (ne_off (by decide))).trans h.c2, World.cell?_setCell_same _ _ _ h.c3, (World.cell?_setCell_other _ _ _ _ (ne_off (by decide))).trans h.c4, fun j => (World.frozen?_setCell _ _ _ _).trans (h.fr j)⟩
theorem DBox.s4 {w : World} {D : Nat} {f s l st : Int} {v : Value} (h : DBox w D f s l st v) (u : Value) : DBox (w.setCell ⟨D, 4, none⟩ u) D f s l st u :=
  ⟨by simpa using h.lt, (World.cell?_setCell_other _ _ _ _ (ne_off (by decide))).trans h.c0, (World.cell?_setCell_other _ _ _ _ (ne_off (by decide))).trans h.c1, (World.cell?_setCell_other _ _ _ _ (ne_off (by decide))).trans h.c2, (World.cell?_setCell_other _ _ _ _ (ne_off (by decide))).trans h.c3, World.cell?_setCell_same _ _ _ h.c4, fun j => (World.frozen?_setCell _ _ _ _).trans (h.fr j)⟩
theorem rcells_snoc (l : List Rate) (r : Rate) : ((l ++ [r]).map Rate.cells).flatten = (l.map Rate.cells).flatten ++ Rate.cells r := by simp
def RatesIn (l : List Rate) : Prop := ∀ r ∈ l, r.p.length ≤ 100 ∧ -2000000000000 ≤ r.price ∧ r.price ≤ 2000000000000
theorem rates_snoc {l : List Rate} {r : Rate} (h : RatesIn l) (h1 : r.p.length ≤ 100) (h2 : -2000000000000 ≤ r.price) (h3 : r.price ≤ 2000000000000) : RatesIn (l ++ [r]) := fun x hx => by
  rcases List.mem_append.1 hx with hx | hx
  · exact h x hx
  · rw [List.mem_singleton.1 hx]; exact ⟨h1, h2, h3⟩
theorem bs_i4 (e : Operand → Value) (he : ∀ v, e (.const v) = v) (o : Oper) (w : World) (z0 z1 z2 z3 : Int) (ho : o.op = .buildSlice 22 4 #[(0, .const (.int .i64 z0)), (1, .const (.int .i64 z1)), (2, .const (.int .i64 z2)), (3, .const (.int .i64 z3))]) :
   (execOp e o).run Tryz.prog w = .ok (.value (.slice (some ⟨w.heap.size, 0, none⟩) 4 4)) (w.alloc (.cells #[.int .i64 z0, .int .i64 z1, .int .i64 z2, .int .i64 z3] 3)) := by
  unfold execOp
  rw [ho]
  simp only [List.map_toArray, List.map_cons, List.map_nil, he]
  kernel_rfl
theorem bs_i3 (e : Operand → Value) (he : ∀ v, e (.const v) = v) (o : Oper) (w : World) (z0 z1 z2 : Int) (ho : o.op = .buildSlice 22 3 #[(0, .const (.int .i64 z0)), (1, .const (.int .i64 z1)), (2, .const (.int .i64 z2))]) :
   (execOp e o).run Tryz.prog w = .ok (.value (.slice (some ⟨w.heap.size, 0, none⟩) 3 3)) (w.alloc (.cells #[.int .i64 z0, .int .i64 z1, .int .i64 z2] 3)) := by
  unfold execOp
  rw [ho]
  simp only [List.map_toArray, List.map_cons, List.map_nil, he]
  kernel_rfl
theorem bs_i5 (e : Operand → Value) (he : ∀ v, e (.const v) = v) (o : Oper) (w : World) (z0 z1 z2 z3 z4 : Int) (ho : o.op = .buildSlice 22 5 #[(0, .const (.int .i64 z0)), (1, .const (.int .i64 z1)), (2, .const (.int .i64 z2)), (3, .const (.int .i64 z3)), (4, .const (.int .i64 z4))]) :
   (execOp e o).run Tryz.prog w = .ok (.value (.slice (some ⟨w.heap.size, 0, none⟩) 5 5)) (w.alloc (.cells #[.int .i64 z0, .int .i64 z1, .int .i64 z2, .int .i64 z3, .int .i64 z4] 3)) := by
  unfold execOp
  rw [ho]
  simp only [List.map_toArray, List.map_cons, List.map_nil, he]
  kernel_rfl
theorem bs_i2 (e : Operand → Value) (he : ∀ v, e (.const v) = v) (o : Oper) (w : World) (z0 z1 : Int) (ho : o.op = .buildSlice 22 2 #[(0, .const (.int .i64 z0)), (1, .const (.int .i64 z1))]) :
   (execOp e o).run Tryz.prog w = .ok (.value (.slice (some ⟨w.heap.size, 0, none⟩) 2 2)) (w.alloc (.cells #[.int .i64 z0, .int .i64 z1] 3)) := by
  unfold execOp
  rw [ho]
  simp only [List.map_toArray, List.map_cons, List.map_nil, he]
  kernel_rfl
theorem bs_s13 (e : Operand → Value) (he : ∀ v, e (.const v) = v) (o : Oper) (w : World)  (p0 p1 p2 p3 p4 p5 p6 p7 p8 p9 p10 p11 p12 : ByteArray) (ho : o.op = .buildSlice 82 13 #[(0, .const (.string p0)), (1, .const (.string p1)), (2, .const (.string p2)), (3, .const (.string p3)), (4, .const (.string p4)), (5, .const (.string p5)), (6, .const (.string p6)), (7, .const (.string p7)), (8, .const (.string p8)), (9, .const (.string p9)), (10, .const (.string p10)), (11, .const (.string p11)), (12, .const (.string p12))])  :
   (execOp e o).run Tryz.prog w = .ok (.value (.slice (some ⟨w.heap.size, 0, none⟩) 13 13)) (w.alloc (.cells #[.string p0, .string p1, .string p2, .string p3, .string p4, .string p5, .string p6, .string p7, .string p8, .string p9, .string p10, .string p11, .string p12] 9)) := by
  unfold execOp
  rw [ho]
  simp only [List.map_toArray, List.map_cons, List.map_nil, he]
  kernel_rfl
theorem bs_s12 (e : Operand → Value) (he : ∀ v, e (.const v) = v) (o : Oper) (w : World)  (p0 p1 p2 p3 p4 p5 p6 p7 p8 p9 p10 p11 : ByteArray) (ho : o.op = .buildSlice 82 12 #[(0, .const (.string p0)), (1, .const (.string p1)), (2, .const (.string p2)), (3, .const (.string p3)), (4, .const (.string p4)), (5, .const (.string p5)), (6, .const (.string p6)), (7, .const (.string p7)), (8, .const (.string p8)), (9, .const (.string p9)), (10, .const (.string p10)), (11, .const (.string p11))])  :
   (execOp e o).run Tryz.prog w = .ok (.value (.slice (some ⟨w.heap.size, 0, none⟩) 12 12)) (w.alloc (.cells #[.string p0, .string p1, .string p2, .string p3, .string p4, .string p5, .string p6, .string p7, .string p8, .string p9, .string p10, .string p11] 9)) := by
  unfold execOp
  rw [ho]
  simp only [List.map_toArray, List.map_cons, List.map_nil, he]
  kernel_rfl
theorem bs_s5r (e : Operand → Value) (he : ∀ v, e (.const v) = v) (o : Oper) (w : World) (i4 : Nat) (p0 p1 p2 p3 p4 : ByteArray) (ho : o.op = .buildSlice 82 5 #[(0, .const (.string p0)), (1, .const (.string p1)), (2, .const (.string p2)), (3, .const (.string p3)), (4, .tmp i4)]) (h4 : e (.tmp i4) = .string p4) :
   (execOp e o).run Tryz.prog w = .ok (.value (.slice (some ⟨w.heap.size, 0, none⟩) 5 5)) (w.alloc (.cells #[.string p0, .string p1, .string p2, .string p3, .string p4] 9)) := by
  unfold execOp
  rw [ho]
  simp only [List.map_toArray, List.map_cons, List.map_nil, he, h4]
  kernel_rfl
end Go.Proofs.YtamoclofloijpaaGreatDoor

set_option linter.unusedVariables false
set_option linter.unusedSimpArgs false
namespace Go.Proofs.YtamoclofloijpaaGreatDoor
open Go.RowKit

theorem flat_set {α : Type} (f : α → List Value) (k : Nat) (hk : ∀ x, (f x).length = k) : ∀ (l : List α) (r j : Nat) (d y : α) (v : Value), r < l.length → j < k → f y = (f (l.getD r d)).set j v → ((l.set r y).map f).flatten = ((l.map f).flatten).set (r * k + j) v
  | c :: cs, 0, j, d, y, v, _, hj, hy => by
    have hy' : f y = (f c).set j v := hy
    simp only [List.set_cons_zero, List.map_cons, List.flatten_cons, Nat.zero_mul, Nat.zero_add]
    rw [hy', List.set_append_left _ _ (by rw [hk]; exact hj)]
  | c :: cs, r + 1, j, d, y, v, hr, hj, hy => by
    have ih := flat_set f k hk cs r j d y v (by simpa using hr) hj (by simpa using hy)
    have e : (r + 1) * k = r * k + k := Nat.succ_mul r k
    simp only [List.set_cons_succ, List.map_cons, List.flatten_cons]
    rw [List.set_append_right _ _ (by rw [hk]; omega), hk, show (r + 1) * k + j - k = r * k + j by omega, ih]
/-- Field j of element r is written. -/
theorem own_put1 {α : Type} (f : α → List Value) {k : Nat} (hk : ∀ x, (f x).length = k) {w : World} {base g n cap : Nat} {e : TypeId} {l : List α} (h : w.ownsRow base e k (.slice (some ⟨g, 0, none⟩) n cap) n ((l.map f).flatten)) (r j : Nat) (d y : α) (v : Value) (hr : r < l.length) (hj : j < k) (hy : f y = (f (l.getD r d)).set j v) :
    (w.setCell ⟨g, r * k + j, none⟩ v).ownsRow base e k (.slice (some ⟨g, 0, none⟩) n cap) n (((l.set r y).map f).flatten) := by
  rw [flat_set f k hk l r j d y v hr hj hy]
  exact (h.stored _ _).1
theorem flat_atF {α : Type} (f : α → List Value) (k : Nat) (hk : ∀ x, (f x).length = k) : ∀ (l : List α) (r j : Nat) (d : α), r < l.length → j < k → ((l.map f).flatten)[r * k + j]? = (f (l.getD r d))[j]?
  | c :: cs, 0, j, d, _, hj => by
    simp only [List.map_cons, List.flatten_cons, Nat.zero_mul, Nat.zero_add]
    rw [List.getElem?_append_left (by rw [hk]; exact hj)]
    rfl
  | c :: cs, r + 1, j, d, hr, hj => by
    have ih := flat_atF f k hk cs r j d (by simpa using hr) hj
    have e : (r + 1) * k = r * k + k := Nat.succ_mul r k
    simp only [List.map_cons, List.flatten_cons]
    rw [List.getElem?_append_right (by rw [hk]; omega), hk, show (r + 1) * k + j - k = r * k + j by omega, ih]
    simp
theorem flat_length {α : Type} (f : α → List Value) (k : Nat) (hk : ∀ x, (f x).length = k) (l : List α) : ((l.map f).flatten).length = l.length * k := by
  induction l with
  | nil => simp
  | cons c cs ih => simp only [List.map_cons, List.flatten_cons, List.length_append, List.length_cons, ih, hk, Nat.succ_mul]; omega
/-- Field j of element r. -/
theorem own_field {α : Type} (f : α → List Value) {k : Nat} (hk : ∀ x, (f x).length = k) {w : World} {base g n cap : Nat} {e : TypeId} {l : List α} (h : w.ownsRow base e k (.slice (some ⟨g, 0, none⟩) n cap) n ((l.map f).flatten)) (r j : Nat) (d : α) {v : Value} (hr : r < l.length) (hj : j < k) (hv : (f (l.getD r d))[j]? = some v) : w.cell? ⟨g, r * k + j, none⟩ = some v := by
  have hlt : r * k + j < ((l.map f).flatten).length := by
    rw [flat_length f k hk]
    have : (r + 1) * k ≤ l.length * k := Nat.mul_le_mul_right k hr
    rw [Nat.succ_mul] at this
    omega
  have hl := h.1
  have := h.cellAt (r * k + j) (by omega)
  rw [flat_atF f k hk l r j d hr hj, hv] at this
  exact this
theorem own_soft1 {w : World} {base g n c : Nat} {ty : TypeId} {sz : Nat} {xs : List Value} (h : w.ownsRow base ty sz (.slice (some ⟨g, 0, none⟩) n c) n xs) (j : Nat) : w.frozen? ⟨g, j, none⟩ = false := h.frozenAt j
theorem own_pos {w : World} {base : Nat} {e : TypeId} {size : Nat} {a : Option Addr} {m c n : Nat} {xs : List Value} (h : w.ownsRow base e size (.slice a m c) n xs) (hn : 0 < n) : ∃ g, a = some ⟨g, 0, none⟩ ∧ base ≤ g ∧ g < w.heap.size := by
  rcases h.2 with ⟨_, h0⟩ | ⟨g, cap, cur, e1, h2, h3, _⟩
  · omega
  · injection e1 with e1 e2 e3
    exact ⟨g, e1, h2, (Array.getElem?_eq_some_iff.1 h3).1⟩
end Go.Proofs.YtamoclofloijpaaGreatDoor

set_option linter.unusedVariables false
set_option linter.unusedSimpArgs false
namespace Go.Proofs.YtamoclofloijpaaGreatDoor
open Go.RowKit

theorem own_above {base e size g n cap : Nat} : ∀ (L : List Value) (w : World) (xs : List Value) (o m : Nat), w.ownsRow base e size (.slice (some ⟨g, 0, none⟩) n cap) n xs → m ≤ o → ∃ ys, (w.setCells g o L).ownsRow base e size (.slice (some ⟨g, 0, none⟩) n cap) n ys ∧ ys.take m = xs.take m
  | [], w, xs, o, m, h, _ => ⟨xs, h, rfl⟩
  | v :: L, w, xs, o, m, h, hm => by
    obtain ⟨ys, h1, h2⟩ := own_above L (w.setCell ⟨g, o, none⟩ v) (xs.set o v) (o + 1) m (h.stored o v).1 (by omega)
    exact ⟨ys, h1, by rw [h2, List.take_set_of_le hm]⟩
theorem own_cutK {w : World} {base B cap n m k : Nat} {e : TypeId} {xs : List Value} (h : w.ownsRow base e k (.slice (some ⟨B, 0, none⟩) n cap) n xs) (hm : m ≤ n) : w.ownsRow base e k (.slice (some ⟨B, 0, none⟩) m cap) m (xs.take (m * k)) := by
  have h1 := h.1
  have hk : m * k ≤ n * k := Nat.mul_le_mul_right k hm
  rcases h.2 with ⟨h0, _⟩ | ⟨g, cap', cur, h0, hb, hg, hn, hc, hs, ht⟩
  · cases h0
  · injection h0 with e1 _ e3
    injection e1 with e1
    injection e1 with e1
    subst e1 e3
    refine ⟨by rw [List.length_take]; omega, .inr ⟨B, cap, cur, rfl, hb, hg, by omega, hc, hs, ?_⟩⟩
    rw [← ht, List.take_take, Nat.min_eq_left hk]
theorem flat_take {α : Type} (f : α → List Value) (k : Nat) (hk : ∀ x, (f x).length = k) : ∀ (l : List α) (m : Nat), m ≤ l.length → ((l.map f).flatten).take (m * k) = ((l.take m).map f).flatten
  | l, 0, _ => by simp
  | [], m + 1, h => by simp at h
  | x :: l, m + 1, h => by
    rw [List.map_cons, List.flatten_cons, List.take_succ_cons, List.map_cons, List.flatten_cons]
    rw [show (m + 1) * k = (f x).length + m * k by rw [hk, Nat.add_mul]; omega, List.take_append]
    rw [List.take_of_length_le (by omega), Nat.add_sub_cancel_left, flat_take f k hk l m (by simpa using h)]
theorem run_clear_any (w : World) (t e : TypeId) (z : Value) (ht : Tryz.prog.underlying t = some (.slice e)) (hv : ∀ w, (zeroValue e).run Tryz.prog w = .ok z w) (hz : 0 < z.cells.size) (h1 : ∀ i : Nat, Value.oneCell' (z.cells[i]!) = true) (b o n c : Nat) (hn : 0 < n)
    (hc : ∀ j, j < n * z.cells.size → (w.cell? ⟨b, o + j, none⟩).isSome = true) (hf : ∀ j, j < n * z.cells.size → w.frozen? ⟨b, o + j, none⟩ = false) :
    ∃ L, ∀ ty : TypeId, (Builtin.clear_ #[t] ty #[.slice (some ⟨b, o, none⟩) n c]).run Tryz.prog w = .ok (.tuple #[]) (w.setCells b o L) := by
  refine ⟨(Builtin.zeroCells z.cells n).toList, fun ty => ?_⟩
  have hl : (Builtin.zeroCells z.cells n).size = n * z.cells.size := by simp [Builtin.zeroCells]
  have hst := run_storeCells_cells (P := Tryz.prog) b o (Builtin.zeroCells z.cells n).toList 0 w (by rw [Array.length_toList, hl]; simpa using hc) (by rw [Array.length_toList, hl]; simpa using hf) (by
    intro v hv'
    obtain ⟨i, hi, rfl⟩ := List.getElem_of_mem hv'
    simp only [Builtin.zeroCells, Array.getElem_toList, Array.getElem_map]
    exact h1 _)
  simp only [Nat.add_zero] at hst
  obtain ⟨m, rfl⟩ : ∃ m, n = m + 1 := ⟨n - 1, by omega⟩
  simp [Builtin.clear_, run_underlying ht, hv, hst]
theorem wpList_doneT {P : Program} {ops : Array Oper} {rest : List Oper} {o : Oper} {a : Act} {w w' : World} {Q : Exit → Act → World → Prop} (hg : o.guard = none) (h : (execOp a.eval o).run P w = .ok .skip w') (hK : wpList P ops Q rest (a.put o.dst undef) w') : wpList P ops Q (o :: rest) a w :=
  wpList_plain hg fun K hK' => wp_skip h (hK' _ _ hK)
end Go.Proofs.YtamoclofloijpaaGreatDoor

set_option linter.unusedVariables false
set_option linter.unusedSimpArgs false
namespace Go.Proofs.YtamoclofloijpaaGreatDoor
open Go.RowKit Go.Sort Go.Lib

theorem flatK_list {α : Type} [Inhabited α] (enc : α → List Value) {k : Nat} (hk : ∀ x, (enc x).length = k) (h0 : 0 < k) (l : List α) : (flatK enc k l.toArray).toList = (l.map enc).flatten := by
  have hL := flat_length enc k hk l
  apply List.ext_getElem?
  intro t
  by_cases ht : t < l.length * k
  · have hd : t / k < l.length := (Nat.div_lt_iff_lt_mul h0).2 ht
    have hm : t % k < k := Nat.mod_lt _ h0
    have h1 := flat_atF enc k hk l (t / k) (t % k) default hd hm
    rw [show t / k * k + t % k = t from Nat.div_add_mod' t k] at h1
    rw [h1, Array.getElem?_toList]
    have hs : t < (flatK enc k l.toArray).size := by simpa using ht
    have h2 := get_flatK enc k l.toArray t (by simpa using ht)
    rw [Array.getElem?_eq_getElem hs]
    rw [getElem!_pos _ t hs] at h2
    rw [h2]
    have e1 : l.toArray[t / k]! = l.getD (t / k) default := by simp [List.getD_eq_getElem?_getD, hd]
    rw [e1]
    have hm2 : t % k < (enc (l.getD (t / k) default)).length := by rw [hk]; exact hm
    rw [List.getElem?_eq_getElem hm2]
    congr 1
    exact getElem!_pos (enc (l.getD (t / k) default)) (t % k) hm2
  · rw [List.getElem?_eq_none (show (flatK enc k l.toArray).toList.length ≤ t by rw [Array.length_toList, size_flatK, List.size_toArray]; omega), List.getElem?_eq_none (by rw [hL]; omega)]
theorem holdsK_own {α : Type} [Inhabited α] (enc : α → List Value) {k : Nat} (hk : ∀ x, (enc x).length = k) (h0 : 0 < k) {w : World} {base g n cap : Nat} {e : TypeId} {l : List α} (h : w.ownsRow base e k (.slice (some ⟨g, 0, none⟩) n cap) n ((l.map enc).flatten)) : HoldsK enc k w g 0 l.toArray := fun t ht => by
  have hL := flat_length enc k hk l
  have hn := h.1
  have ht' : t < l.length * k := by simpa using ht
  refine ⟨?_, h.frozenAt _⟩
  rw [Nat.zero_add, h.cellAt t (by omega), ← flatK_list enc hk h0 l, Array.getElem?_toList, Array.getElem?_eq_getElem ht, getElem!_pos _ t ht]
  rfl
theorem own_putK {α : Type} [Inhabited α] (enc : α → List Value) {k : Nat} (hk : ∀ x, (enc x).length = k) (h0 : 0 < k) {w : World} {base g n cap : Nat} {e : TypeId} {l ys : List α} (h : w.ownsRow base e k (.slice (some ⟨g, 0, none⟩) n cap) n ((l.map enc).flatten)) (hy : ys.length = l.length) (q : Nat) (os : Array Obj) :
    (sortWorldK enc k w g 0 q ys.toArray os).ownsRow base e k (.slice (some ⟨g, 0, none⟩) n cap) n ((ys.map enc).flatten) := by
  have hL := flat_length enc k hk l
  have hY := flat_length enc k hk ys
  have hn := h.1
  rcases h.2 with ⟨e0, _⟩ | ⟨g', cap', cur, e0, hb, hg, hcn, hm, hs, ht⟩
  · cases e0
  · injection e0 with e1 _ e3
    injection e1 with e1
    injection e1 with e1
    subst e1; subst e3
    have hlt : g < w.heap.size := (Array.getElem?_eq_some_iff.1 hg).1
    have hcur : n * k ≤ cur.size := by rw [hs]; exact Nat.mul_le_mul_right k hcn
    have hF : (flatK enc k ys.toArray).size = n * k := by rw [size_flatK, List.size_toArray, hy]; omega
    refine ⟨by rw [hY, hy]; omega, .inr ⟨g, cap, putCells id 0 (flatK enc k ys.toArray) cur, rfl, hb, ?_, hcn, hm, by simpa [putCells] using hs, ?_⟩⟩
    · unfold sortWorldK grow putRowK putRow mapBlock Sort.ahead
      rw [Array.getElem?_append_left (by simpa using hlt)]
      simp [Array.getElem?_modify, hg, onCells]
    · rw [← flatK_list enc hk h0 ys]
      apply List.ext_getElem?
      intro j
      rw [List.getElem?_take]
      by_cases hj : j < n * k
      · have hjc : j < cur.size := by omega
        have hjF : j < (flatK enc k ys.toArray).size := by omega
        rw [if_pos hj, Array.getElem?_toList, Array.getElem?_toList]
        simp only [putCells, Array.getElem?_mapIdx, Array.getElem?_eq_getElem hjc, Option.map_some]
        rw [if_pos ⟨Nat.zero_le _, by omega⟩, Array.getElem?_eq_getElem hjF]
        simp only [Nat.sub_zero, id]
        congr 1
        exact getElem!_pos _ j hjF
      · rw [if_neg hj, List.getElem?_eq_none (by rw [Array.length_toList]; omega)]
theorem below_sortK {α : Type} [Inhabited α] (enc : α → List Value) (k : Nat) {w0 w : World} {B g q : Nat} {d : Array α} (os : Array Obj) (h : Below B w0 w) (hg : B ≤ g) (hB : B ≤ w.heap.size) : Below B w0 (sortWorldK enc k w g 0 q d os) := by
  refine ⟨h.os, h.tape, h.output, ?_, fun i hi => ?_⟩
  · have := h.size
    unfold sortWorldK grow putRowK putRow mapBlock Sort.ahead
    simp
    omega
  · rw [← h.block i hi]
    unfold sortWorldK grow putRowK putRow mapBlock Sort.ahead
    rw [Array.getElem?_append_left (by simp; omega)]
    simp [Array.getElem?_modify, show g ≠ i by omega]
theorem insInnerK_size {α : Type} [Inhabited α] (lt : α → α → Bool) (a : Nat) : ∀ (j : Nat) (d : Array α), (insInner lt a j d).size = d.size
  | 0, d => by unfold insInner; rfl
  | j + 1, d => by
    unfold insInner
    split
    · rw [insInnerK_size lt a j, swp_size]
    · rfl
theorem insOuterK_size {α : Type} [Inhabited α] (lt : α → α → Bool) (a b : Nat) : ∀ (m i : Nat) (d : Array α), b - i ≤ m → (insOuter lt a b i d).size = d.size := by
  intro m
  induction m with
  | zero =>
    intro i d h
    unfold insOuter
    rw [if_neg (by omega)]
  | succ m ih =>
    intro i d h
    unfold insOuter
    split
    · rw [ih _ _ (by omega), insInnerK_size]
    · rfl
/-- A list sorted by insertion. -/
def insL {α : Type} [Inhabited α] (lt : α → α → Bool) (l : List α) : List α := (insertionSort lt l.toArray 0 l.length).toList
theorem insL_len {α : Type} [Inhabited α] (lt : α → α → Bool) (l : List α) : (insL lt l).length = l.length := by
  unfold insL insertionSort
  rw [Array.length_toList, insOuterK_size _ _ _ _ _ _ (Nat.le_refl _)]
  simp
theorem insL_arr {α : Type} [Inhabited α] (lt : α → α → Bool) (l : List α) : insertionSort lt l.toArray 0 l.length = (insL lt l).toArray := by
  unfold insL
  simp
/-- Up to three elements: two orders that agree where a later one is compared with an earlier one sort alike. -/
theorem insL_same {α : Type} [Inhabited α] (lt lt2 : α → α → Bool) (l : List α) (hl : l.length ≤ 3) (h : ∀ i j, i < j → j < l.length → lt (l.getD j default) (l.getD i default) = lt2 (l.getD j default) (l.getD i default)) : insL lt l = insL lt2 l := by
  match l, hl with
  | [], _ =>
    unfold insL insertionSort insOuter
    simp
  | [x], _ =>
    unfold insL insertionSort insOuter
    simp
  | [x, y], _ =>
    have h1 := h 0 1 (by omega) (by simp)
    simp only [List.getD_cons_zero, List.getD_cons_succ] at h1
    have e : ∀ lt : α → α → Bool, insL lt [x, y] = if lt y x = true then [y, x] else [x, y] := fun lt => by
      unfold insL insertionSort
      rw [insOuter, if_pos (by simp), insOuter, if_neg (by simp)]
      cases hq : lt y x <;> simp [insInner, swp, hq]
    rw [e, e, h1]
  | [x, y, z], _ =>
    have h1 := h 0 1 (by omega) (by simp)
    have h2 := h 0 2 (by omega) (by simp)
    have h3 := h 1 2 (by omega) (by simp)
    simp only [List.getD_cons_zero, List.getD_cons_succ] at h1 h2 h3
    have e : ∀ lt : α → α → Bool, insL lt [x, y, z] = if lt y x = true then (if lt z x = true then (if lt z y = true then [z, y, x] else [y, z, x]) else [y, x, z]) else (if lt z y = true then (if lt z x = true then [z, x, y] else [x, z, y]) else [x, y, z]) := fun lt => by
      unfold insL insertionSort
      rw [insOuter, if_pos (by simp), insOuter, if_pos (by simp), insOuter, if_neg (by simp)]
      cases hq : lt y x <;> cases hr : lt z x <;> cases ht : lt z y <;> simp [insInner, swp, hq, hr, ht]
    rw [e, e, h1, h2, h3]
end Go.Proofs.YtamoclofloijpaaGreatDoor

set_option linter.unusedVariables false
set_option linter.unusedSimpArgs false
namespace Go.Proofs.YtamoclofloijpaaGreatDoor
open Go.RowKit

def IntP (n : Int) (w : World) (e : Ending) (w' : World) : Prop := e = .returned (.int .i64 n) ∧ Below w.heap.size w w'
def BoolP (b : Bool) (w : World) (e : Ending) (w' : World) : Prop := e = .returned (.bool b) ∧ Below w.heap.size w w'
end Go.Proofs.YtamoclofloijpaaGreatDoor

namespace Go.Proofs.YtamoclofloijpaaGreatDoor

theorem bang_is {α : Type} [Inhabited α] {l : List α} {j : Nat} (h : j < l.length) : l[j]! = l.getD j default := by
  simp [List.getD_eq_getElem?_getD, h]
end Go.Proofs.YtamoclofloijpaaGreatDoor

set_option linter.unusedVariables false
set_option linter.unusedSimpArgs false
namespace Go.Proofs.YtamoclofloijpaaGreatDoor
open Go.RowKit Go.Sort Go.Lib

/-- One api.Beacon. -/
structure Vbcn where
  per : List UInt8
  dev : List UInt8
  st : Int
  at_ : Int
  til : Int
  note : List UInt8
deriving DecidableEq
def noVbcn : Vbcn := ⟨[], [], 0, 0, 0, []⟩
instance : Inhabited Vbcn := ⟨noVbcn⟩
def Vbcn.cells (x : Vbcn) : List Value := [.string ⟨x.per.toArray⟩, .string ⟨x.dev.toArray⟩, .int .i64 x.st, .int .i64 x.at_, .int .i64 x.til, .string ⟨x.note.toArray⟩]
def Vbcn.val (x : Vbcn) : Value := .agg #[.string ⟨x.per.toArray⟩, .string ⟨x.dev.toArray⟩, .int .i64 x.st, .int .i64 x.at_, .int .i64 x.til, .string ⟨x.note.toArray⟩]
def VbcnRow (w : World) (base : Nat) (v : Value) (l : List Vbcn) : Prop := w.ownsRow base 35 6 v l.length ((l.map Vbcn.cells).flatten)
theorem bcn_one : ∀ (x : Vbcn), ∀ v ∈ Vbcn.cells x, v.oneCell' = true := fun x v hv => by
  simp only [Vbcn.cells, List.mem_cons, List.not_mem_nil, or_false] at hv
  rcases hv with rfl | rfl | rfl | rfl | rfl | rfl <;> rfl
theorem Tryz.bcnSz : (Tryz.prog.info? 35).map (·.size) = some 6 := by kernel_rfl
theorem Tryz.bcnInfo : (Tryz.prog.info? 35).map (fun i => (i.zero, i.size, i.bytes)) = some (some (.agg #[.string ⟨#[]⟩, .string ⟨#[]⟩, .int .i64 0, .int .i64 0, .int .i64 0, .string ⟨#[]⟩]), 6, 72) := by kernel_rfl
theorem bcn_put {w : World} {base g n cap : Nat} {e : TypeId} {R : List Vbcn} (h : w.ownsRow base e 6 (.slice (some ⟨g, 0, none⟩) n cap) n ((R.map Vbcn.cells).flatten)) (i : Nat) (hi : i < R.length) (x : Vbcn) :
    (w.setCells g (i * 6) x.cells).ownsRow base e 6 (.slice (some ⟨g, 0, none⟩) n cap) n (((R.set i x).map Vbcn.cells).flatten) := by
  obtain ⟨a0, a1, a2, a3, a4, a5⟩ := x
  have h1 := own_put1 Vbcn.cells (fun _ => rfl) h i 0 default ⟨a0, (R.getD i default).dev, (R.getD i default).st, (R.getD i default).at_, (R.getD i default).til, (R.getD i default).note⟩ (.string ⟨a0.toArray⟩) hi (by omega) rfl
  rw [Nat.add_zero] at h1
  have h2 := own_put1 Vbcn.cells (fun _ => rfl) h1 i 1 default ⟨a0, a1, (R.getD i default).st, (R.getD i default).at_, (R.getD i default).til, (R.getD i default).note⟩ (.string ⟨a1.toArray⟩) (by simpa using hi) (by omega) (by simp [hi, Vbcn.cells])
  rw [List.set_set] at h2
  have h3 := own_put1 Vbcn.cells (fun _ => rfl) h2 i 2 default ⟨a0, a1, a2, (R.getD i default).at_, (R.getD i default).til, (R.getD i default).note⟩ (.int .i64 a2) (by simpa using hi) (by omega) (by simp [hi, Vbcn.cells])
  rw [List.set_set] at h3
  have h4 := own_put1 Vbcn.cells (fun _ => rfl) h3 i 3 default ⟨a0, a1, a2, a3, (R.getD i default).til, (R.getD i default).note⟩ (.int .i64 a3) (by simpa using hi) (by omega) (by simp [hi, Vbcn.cells])
  rw [List.set_set] at h4
  have h5 := own_put1 Vbcn.cells (fun _ => rfl) h4 i 4 default ⟨a0, a1, a2, a3, a4, (R.getD i default).note⟩ (.int .i64 a4) (by simpa using hi) (by omega) (by simp [hi, Vbcn.cells])
  rw [List.set_set] at h5
  have h6 := own_put1 Vbcn.cells (fun _ => rfl) h5 i 5 default ⟨a0, a1, a2, a3, a4, a5⟩ (.string ⟨a5.toArray⟩) (by simpa using hi) (by omega) (by simp [hi, Vbcn.cells])
  rw [List.set_set] at h6
  exact h6
theorem bcn_mem {L : List Vbcn} {i : Nat} (h : i < L.length) : L.getD i default ∈ L := by
  rw [List.getD_eq_getElem?_getD, List.getElem?_eq_getElem h]
  exact List.getElem_mem h
theorem bcn_set (R : List Vbcn) (i j : Nat) (x : Vbcn) (hi : i < R.length) : (R.set i x).getD j default = if j = i then x else R.getD j default := by
  rw [List.getD_eq_getElem?_getD, List.getD_eq_getElem?_getD, List.getElem?_set]
  by_cases e : i = j
  · subst e; simp [hi]
  · simp [e, Ne.symm e]
end Go.Proofs.YtamoclofloijpaaGreatDoor

set_option linter.unusedVariables false
set_option linter.unusedSimpArgs false
namespace Go.Proofs.YtamoclofloijpaaGreatDoor
open Go.RowKit Go.Sort Go.Lib

/-- One api.Act. -/
structure Vact where
  at_ : Int
  box : List UInt8
  id : List UInt8
  kind : Int
  long : Int
  frm : List UInt8
deriving DecidableEq
def noVact : Vact := ⟨0, [], [], 0, 0, []⟩
instance : Inhabited Vact := ⟨noVact⟩
def Vact.cells (x : Vact) : List Value := [.int .i64 x.at_, .string ⟨x.box.toArray⟩, .string ⟨x.id.toArray⟩, .int .i64 x.kind, .int .i64 x.long, .string ⟨x.frm.toArray⟩]
def Vact.val (x : Vact) : Value := .agg #[.int .i64 x.at_, .string ⟨x.box.toArray⟩, .string ⟨x.id.toArray⟩, .int .i64 x.kind, .int .i64 x.long, .string ⟨x.frm.toArray⟩]
def VactRow (w : World) (base : Nat) (v : Value) (l : List Vact) : Prop := w.ownsRow base 45 6 v l.length ((l.map Vact.cells).flatten)
theorem act_one : ∀ (x : Vact), ∀ v ∈ Vact.cells x, v.oneCell' = true := fun x v hv => by
  simp only [Vact.cells, List.mem_cons, List.not_mem_nil, or_false] at hv
  rcases hv with rfl | rfl | rfl | rfl | rfl | rfl <;> rfl
theorem Tryz.actSz : (Tryz.prog.info? 45).map (·.size) = some 6 := by kernel_rfl
theorem Tryz.actInfo : (Tryz.prog.info? 45).map (fun i => (i.zero, i.size, i.bytes)) = some (some (.agg #[.int .i64 0, .string ⟨#[]⟩, .string ⟨#[]⟩, .int .i64 0, .int .i64 0, .string ⟨#[]⟩]), 6, 72) := by kernel_rfl
theorem act_put {w : World} {base g n cap : Nat} {e : TypeId} {R : List Vact} (h : w.ownsRow base e 6 (.slice (some ⟨g, 0, none⟩) n cap) n ((R.map Vact.cells).flatten)) (i : Nat) (hi : i < R.length) (x : Vact) :
    (w.setCells g (i * 6) x.cells).ownsRow base e 6 (.slice (some ⟨g, 0, none⟩) n cap) n (((R.set i x).map Vact.cells).flatten) := by
  obtain ⟨a0, a1, a2, a3, a4, a5⟩ := x
  have h1 := own_put1 Vact.cells (fun _ => rfl) h i 0 default ⟨a0, (R.getD i default).box, (R.getD i default).id, (R.getD i default).kind, (R.getD i default).long, (R.getD i default).frm⟩ (.int .i64 a0) hi (by omega) rfl
  rw [Nat.add_zero] at h1
  have h2 := own_put1 Vact.cells (fun _ => rfl) h1 i 1 default ⟨a0, a1, (R.getD i default).id, (R.getD i default).kind, (R.getD i default).long, (R.getD i default).frm⟩ (.string ⟨a1.toArray⟩) (by simpa using hi) (by omega) (by simp [hi, Vact.cells])
  rw [List.set_set] at h2
  have h3 := own_put1 Vact.cells (fun _ => rfl) h2 i 2 default ⟨a0, a1, a2, (R.getD i default).kind, (R.getD i default).long, (R.getD i default).frm⟩ (.string ⟨a2.toArray⟩) (by simpa using hi) (by omega) (by simp [hi, Vact.cells])
  rw [List.set_set] at h3
  have h4 := own_put1 Vact.cells (fun _ => rfl) h3 i 3 default ⟨a0, a1, a2, a3, (R.getD i default).long, (R.getD i default).frm⟩ (.int .i64 a3) (by simpa using hi) (by omega) (by simp [hi, Vact.cells])
  rw [List.set_set] at h4
  have h5 := own_put1 Vact.cells (fun _ => rfl) h4 i 4 default ⟨a0, a1, a2, a3, a4, (R.getD i default).frm⟩ (.int .i64 a4) (by simpa using hi) (by omega) (by simp [hi, Vact.cells])
  rw [List.set_set] at h5
  have h6 := own_put1 Vact.cells (fun _ => rfl) h5 i 5 default ⟨a0, a1, a2, a3, a4, a5⟩ (.string ⟨a5.toArray⟩) (by simpa using hi) (by omega) (by simp [hi, Vact.cells])
  rw [List.set_set] at h6
  exact h6
theorem act_mem {L : List Vact} {i : Nat} (h : i < L.length) : L.getD i default ∈ L := by
  rw [List.getD_eq_getElem?_getD, List.getElem?_eq_getElem h]
  exact List.getElem_mem h
theorem act_set (R : List Vact) (i j : Nat) (x : Vact) (hi : i < R.length) : (R.set i x).getD j default = if j = i then x else R.getD j default := by
  rw [List.getD_eq_getElem?_getD, List.getD_eq_getElem?_getD, List.getElem?_set]
  by_cases e : i = j
  · subst e; simp [hi]
  · simp [e, Ne.symm e]
end Go.Proofs.YtamoclofloijpaaGreatDoor

set_option linter.unusedVariables false
set_option linter.unusedSimpArgs false
namespace Go.Proofs.YtamoclofloijpaaGreatDoor
open Go.RowKit

theorem own_lit0 (w : World) (base : Nat) (hb : base ≤ w.heap.size) : (w.alloc (.cells #[] 9)).ownsRow base 9 1 (.slice (some ⟨w.heap.size, 0, none⟩) 0 0) 0 [] := World.ownsRow_lit w #[] 0 hb (by simp only [maxLen]; omega) rfl
def ClonePost (n : Nat) (x : List (List UInt8)) (w : World) (e : Ending) (w' : World) : Prop := ∃ v', e = .returned v' ∧ w'.ownsRow w.heap.size 9 1 v' n (x.map encS) ∧ Below w.heap.size w w'
end Go.Proofs.YtamoclofloijpaaGreatDoor

set_option linter.unusedVariables false
set_option linter.unusedSimpArgs false
namespace Go.Proofs.YtamoclofloijpaaGreatDoor
open Go.RowKit Go.Sort

theorem own_short {w : World} {base : Nat} {e : TypeId} {g n cap : Nat} {A B : List Value} (h : w.ownsRow base e 1 (.slice (some ⟨g, 0, none⟩) n cap) n (A ++ B)) : w.ownsRow base e 1 (.slice (some ⟨g, 0, none⟩) A.length cap) A.length A := by
  have hl : (A ++ B).length = n := by have := h.1; simpa using this
  rcases h.2 with ⟨h0, _⟩ | ⟨g', cap', cur, hv, hb, hg, h1, h2, h3, h4⟩
  · cases h0
  · cases hv
    have hA : A.length ≤ n := by rw [← hl, List.length_append]; omega
    refine ⟨by simp, Or.inr ⟨g, cap, cur, rfl, hb, hg, by omega, h2, h3, ?_⟩⟩
    have h5 := congrArg (List.take A.length) h4
    rw [List.take_take, List.take_left, Nat.min_eq_left (by omega)] at h5
    rw [Nat.mul_one]
    exact h5
def SortPost (base : Nat) (v : Value) (n : Nat) (ys : List (List UInt8)) (w : World) (e : Ending) (w' : World) : Prop :=
  e = .returned (.tuple #[]) ∧ w'.ownsRow base 9 1 v n (ys.map encS) ∧ w.grownBy w' v.ownBlock
theorem grown_same (w : World) (r : Option Nat) : w.grownBy w r := ⟨rfl, rfl, rfl, Nat.le_refl _, fun _ _ _ => rfl⟩
def CompactPost (base : Nat) (v : Value) (ys : List (List UInt8)) (w : World) (e : Ending) (w' : World) : Prop :=
  ∃ v', e = .returned v' ∧ w'.ownsRow base 9 1 v' ys.length (ys.map encS) ∧ w.grownBy w' v.ownBlock
def OncePost (ys : List (List UInt8)) (w : World) (e : Ending) (w' : World) : Prop :=
  ∃ v', e = .returned v' ∧ w'.ownsRow w.heap.size 9 1 v' ys.length (ys.map encS) ∧ Below w.heap.size w w'
end Go.Proofs.YtamoclofloijpaaGreatDoor

set_option linter.unusedVariables false
set_option linter.unusedSimpArgs false
namespace Go.Proofs.YtamoclofloijpaaGreatDoor
open Go.RowKit

theorem isNumB_eq (s : List UInt8) : isNumB s = (Lib.hasPrefix s [43] && (digitsB (s.drop 1) 4 15 && ((s.drop 1).headD 0 != 48))) := by
  unfold isNumB Lib.trimPrefix
  cases h : Lib.hasPrefix s [43] with
  | false => rfl
  | true => rfl

end Go.Proofs.YtamoclofloijpaaGreatDoor

set_option linter.unusedVariables false
set_option linter.unusedSimpArgs false
namespace Go.Proofs.YtamoclofloijpaaGreatDoor
open Go.RowKit

def firstE (a b : Int) : Int := if a ≠ 0 then a else b
end Go.Proofs.YtamoclofloijpaaGreatDoor

set_option linter.unusedVariables false
set_option linter.unusedSimpArgs false
namespace Go.Proofs.YtamoclofloijpaaGreatDoor
open Go.RowKit Go.Sort Go.Lib

theorem ltS_tri (a b : List UInt8) : a < b ∨ a = b ∨ b < a := by
  by_cases h : a < b
  · exact Or.inl h
  · by_cases h2 : b < a
    · exact Or.inr (Or.inr h2)
    · exact Or.inr (Or.inl (List.le_antisymm (List.not_lt.1 h2) (List.not_lt.1 h)))
theorem ltS_no {a b : List UInt8} (h : a < b) : ¬ b < a := fun h2 => List.lt_irrefl a (List.lt_trans h h2)
/-- Acts are compared by At, Box, Id and Kind. -/
def Vact.lt (a b : Vact) : Prop := a.at_ < b.at_ ∨ (a.at_ = b.at_ ∧ (a.box < b.box ∨ (a.box = b.box ∧ (a.id < b.id ∨ (a.id = b.id ∧ a.kind < b.kind)))))
def Vact.same (a b : Vact) : Prop := a.at_ = b.at_ ∧ a.box = b.box ∧ a.id = b.id ∧ a.kind = b.kind
def actCmp (a b : Vact) : Int := firstE (Lib.compareInt a.at_ b.at_) (firstE (Lib.compareBytes a.box b.box) (firstE (Lib.compareBytes a.id b.id) (Lib.compareInt a.kind b.kind)))
theorem cmpI_neg (x y : Int) : Lib.compareInt x y < 0 ↔ x < y := by unfold Lib.compareInt; repeat' split <;> omega
theorem cmpI_zero (x y : Int) : Lib.compareInt x y = 0 ↔ x = y := by unfold Lib.compareInt; repeat' split <;> omega
theorem cmpS_neg (a b : List UInt8) : Lib.compareBytes a b < 0 ↔ a < b := by rw [cmp_neg, bytesLess_eq, decide_eq_true_eq]
theorem firstE_neg (a b : Int) : firstE a b < 0 ↔ a < 0 ∨ (a = 0 ∧ b < 0) := by unfold firstE; split <;> omega
theorem firstE_zero (a b : Int) : firstE a b = 0 ↔ a = 0 ∧ b = 0 := by unfold firstE; split <;> omega
theorem actCmp_neg (a b : Vact) : actCmp a b < 0 ↔ a.lt b := by
  unfold actCmp Vact.lt
  rw [firstE_neg, firstE_neg, firstE_neg, cmpI_neg, cmpI_zero, cmpS_neg, cmp_zero, cmpS_neg, cmp_zero, cmpI_neg]
theorem actCmp_zero (a b : Vact) : actCmp a b = 0 ↔ a.same b := by
  unfold actCmp Vact.same
  rw [firstE_zero, firstE_zero, firstE_zero, cmpI_zero, cmp_zero, cmp_zero, cmpI_zero]
theorem Vact.lt.tr {a b c : Vact} (h : a.lt b) (k : b.lt c) : a.lt c := by
  unfold Vact.lt at *
  rcases h with h | ⟨h0, h | ⟨h1, h | ⟨h2, h⟩⟩⟩ <;> rcases k with k | ⟨k0, k | ⟨k1, k | ⟨k2, k⟩⟩⟩
  · left; omega
  · left; omega
  · left; omega
  · left; omega
  · left; omega
  · exact Or.inr ⟨by omega, Or.inl (List.lt_trans h k)⟩
  · exact Or.inr ⟨by omega, Or.inl (k1 ▸ h)⟩
  · exact Or.inr ⟨by omega, Or.inl (k1 ▸ h)⟩
  · left; omega
  · exact Or.inr ⟨by omega, Or.inl (h1 ▸ k)⟩
  · exact Or.inr ⟨by omega, Or.inr ⟨h1.trans k1, Or.inl (List.lt_trans h k)⟩⟩
  · exact Or.inr ⟨by omega, Or.inr ⟨h1.trans k1, Or.inl (k2 ▸ h)⟩⟩
  · left; omega
  · exact Or.inr ⟨by omega, Or.inl (h1 ▸ k)⟩
  · exact Or.inr ⟨by omega, Or.inr ⟨h1.trans k1, Or.inl (h2 ▸ k)⟩⟩
  · exact Or.inr ⟨by omega, Or.inr ⟨h1.trans k1, Or.inr ⟨h2.trans k2, by omega⟩⟩⟩
theorem Vact.lt_irrefl (a : Vact) : ¬ a.lt a := fun h => by
  unfold Vact.lt at h
  rcases h with h | ⟨_, h | ⟨_, h | ⟨_, h⟩⟩⟩
  · omega
  · exact List.lt_irrefl _ h
  · exact List.lt_irrefl _ h
  · omega
theorem Vact.tri (a b : Vact) : a.lt b ∨ a.same b ∨ b.lt a := by
  unfold Vact.lt Vact.same
  rcases Int.lt_trichotomy a.at_ b.at_ with h | h | h
  · exact Or.inl (Or.inl h)
  · rcases ltS_tri a.box b.box with h1 | h1 | h1
    · exact Or.inl (Or.inr ⟨h, Or.inl h1⟩)
    · rcases ltS_tri a.id b.id with h2 | h2 | h2
      · exact Or.inl (Or.inr ⟨h, Or.inr ⟨h1, Or.inl h2⟩⟩)
      · rcases Int.lt_trichotomy a.kind b.kind with h3 | h3 | h3
        · exact Or.inl (Or.inr ⟨h, Or.inr ⟨h1, Or.inr ⟨h2, h3⟩⟩⟩)
        · exact Or.inr (Or.inl ⟨h, h1, h2, h3⟩)
        · exact Or.inr (Or.inr (Or.inr ⟨h.symm, Or.inr ⟨h1.symm, Or.inr ⟨h2.symm, h3⟩⟩⟩))
      · exact Or.inr (Or.inr (Or.inr ⟨h.symm, Or.inr ⟨h1.symm, Or.inl h2⟩⟩))
    · exact Or.inr (Or.inr (Or.inr ⟨h.symm, Or.inl h1⟩))
  · exact Or.inr (Or.inr (Or.inl h))
theorem Vact.lt.asymm {a b : Vact} (h : a.lt b) : ¬ b.lt a := fun k => a.lt_irrefl (h.tr k)
theorem Vact.same.nlt {a b : Vact} (h : a.same b) : ¬ a.lt b := fun k => by
  unfold Vact.lt at k
  obtain ⟨h0, h1, h2, h3⟩ := h
  rcases k with k | ⟨_, k | ⟨_, k | ⟨_, k⟩⟩⟩
  · omega
  · exact List.lt_irrefl _ (h1 ▸ k)
  · exact List.lt_irrefl _ (h2 ▸ k)
  · omega
theorem Vact.same.symm {a b : Vact} (h : a.same b) : b.same a := ⟨h.1.symm, h.2.1.symm, h.2.2.1.symm, h.2.2.2.symm⟩
theorem actCmp_pos (a b : Vact) : 0 < actCmp a b ↔ b.lt a := by
  constructor
  · intro h
    rcases a.tri b with k | k | k
    · rw [← actCmp_neg] at k; omega
    · rw [← actCmp_zero] at k; omega
    · exact k
  · intro h
    have h1 : ¬ actCmp a b < 0 := by rw [actCmp_neg]; exact h.asymm
    have h2 : ¬ actCmp a b = 0 := by rw [actCmp_zero]; exact fun k => k.symm.nlt h
    omega
theorem ltA_is (x y : Vact) : ltOf actCmp x y = decide (actCmp x y < 0) := rfl
theorem swo_A : SWO (ltOf actCmp) := by
  constructor
  · intro x
    rw [ltA_is, decide_eq_false_iff_not, actCmp_neg]; exact x.lt_irrefl
  · intro x y z h k
    simp only [ltA_is, decide_eq_true_eq, actCmp_neg] at *
    exact h.tr k
  · intro x y z h k
    simp only [ltA_is, decide_eq_false_iff_not, actCmp_neg] at *
    intro hl
    rcases x.tri y with q | q | q
    · exact h q
    · rcases y.tri z with r | r | r
      · exact k r
      · obtain ⟨q0, q1, q2, q3⟩ := q; obtain ⟨r0, r1, r2, r3⟩ := r
        exact Vact.same.nlt (a := x) (b := z) ⟨q0.trans r0, q1.trans r1, q2.trans r2, q3.trans r3⟩ hl
      · exact k ((by
          obtain ⟨q0, q1, q2, q3⟩ := q
          unfold Vact.lt at hl ⊢
          rw [← q0, ← q1, ← q2, ← q3]; exact hl))
    · exact k (q.tr hl)
/-- Acts in strict order. -/
def Asc (l : List Vact) : Prop := l.Pairwise Vact.lt
theorem Asc.nodup {l : List Vact} (h : Asc l) : l.Nodup := h.imp (fun {a b} hab e => a.lt_irrefl (by rw [← e] at hab; exact hab))
theorem Asc.key {l : List Vact} (h : Asc l) {a b : Vact} (ha : a ∈ l) (hb : b ∈ l) (hs : a.same b) : a = b := by
  obtain ⟨i, hi, rfl⟩ := List.getElem_of_mem ha
  obtain ⟨j, hj, rfl⟩ := List.getElem_of_mem hb
  rcases Nat.lt_trichotomy i j with h1 | h1 | h1
  · exact absurd (List.pairwise_iff_getElem.1 h i j hi hj h1) hs.nlt
  · subst h1; rfl
  · exact absurd (List.pairwise_iff_getElem.1 h j i hj hi h1) hs.symm.nlt
/-- What is sorted out of the elements of an ascending list is that list. -/
theorem insA_asc {l x : List Vact} (hx : Asc x) (hn : l.Nodup) (hm : ∀ a, a ∈ l ↔ a ∈ x) : insL (ltOf actCmp) l = x := by
  obtain ⟨⟨hs, _, hp⟩, ho⟩ := insertionSort_holds swo_A l.toArray 0 l.length (Nat.zero_le _) (by simp)
  rw [insL_arr] at hs hp ho
  have e1 : ((insL (ltOf actCmp) l).toArray.extract 0 l.length).toList = insL (ltOf actCmp) l := by
    rw [show l.length = (insL (ltOf actCmp) l).toArray.size by rw [hs]; simp]
    simp
  have e2 : (l.toArray.extract 0 l.length).toList = l := by simp
  rw [e1, e2] at hp
  have hl : (insL (ltOf actCmp) l).length = l.length := insL_len _ _
  have hsort : (insL (ltOf actCmp) l).Pairwise (fun a b => ¬ b.lt a) := by
    rw [List.pairwise_iff_getElem]
    intro i j hi hj hij
    have := ho i j (Nat.zero_le _) hij (by omega)
    rw [ltA_is, decide_eq_false_iff_not, actCmp_neg] at this
    simpa [hi, hj] using this
  have hm2 : ∀ a, a ∈ insL (ltOf actCmp) l ↔ a ∈ x := fun a => (hp.mem_iff).trans (hm a)
  have hn2 : (insL (ltOf actCmp) l).Nodup := hp.symm.nodup hn
  have hperm : (insL (ltOf actCmp) l).Perm x := (List.perm_ext_iff_of_nodup hn2 hx.nodup).2 hm2
  refine List.Perm.eq_of_pairwise (le := fun a b => ¬ b.lt a) (fun a b ha hb h1 h2 => ?_) hsort (hx.imp (fun {a b} h => h.asymm)) hperm
  rcases a.tri b with k | k | k
  · exact absurd k h2
  · exact hx.key ((hm2 a).1 ha) hb k
  · exact absurd k h1
end Go.Proofs.YtamoclofloijpaaGreatDoor

set_option linter.unusedVariables false
set_option linter.unusedSimpArgs false
namespace Go.Proofs.YtamoclofloijpaaGreatDoor
open Go.RowKit

/-- The table of powers of ten is laid, ahead of block S. -/
def TabW (S : Nat) (w : World) : Prop := Lib.TabIs Tryz.prog w "internal/strconv.uint64pow10" .u64 Lib.pow10Tab ∧ 4 < S
theorem gPow : Tryz.prog.globalNamed "internal/strconv.uint64pow10" = some 4 := by kernel_rfl
theorem tab_block {w w' : World} {S : Nat} (h : TabW S w) (hb : w'.heap[4]? = w.heap[4]?) : TabW S w' := by
  refine ⟨?_, h.2⟩
  have h1 := h.1
  unfold Lib.TabIs World.var? at h1 ⊢
  rw [gPow] at h1 ⊢
  simp only [Option.bind_some] at h1 ⊢
  rw [hb]
  exact h1
theorem tab_keeps {w w' : World} {S : Nat} (h : TabW S w) (hk : Keeps S w w') (hS : S < w.heap.size) : TabW S w' :=
  tab_block h (hk.block _ (Nat.lt_trans h.2 hS) (Nat.ne_of_lt h.2))
theorem tab_below {w w' : World} {S B : Nat} (h : TabW S w) (hb : Below B w w') (hS : S ≤ B) : TabW S w' :=
  tab_block h (hb.block _ (Nat.lt_of_lt_of_le h.2 hS))
theorem below_grow (w : World) (q : Nat) (os : Array Obj) : Below w.heap.size w (Go.Sort.grow (w.drewN q) os) := by
  refine ⟨rfl, rfl, rfl, ?_, fun k hk => Go.Sort.heap_grow_old _ _ hk⟩
  rw [Go.Sort.size_grow]
  exact Nat.le_add_right _ _
end Go.Proofs.YtamoclofloijpaaGreatDoor

set_option linter.unusedVariables false
set_option linter.unusedSimpArgs false
namespace Go.Proofs.YtamoclofloijpaaGreatDoor
open Go.RowKit

def PartsPost (x : Spl) (w : World) (e : Ending) (w' : World) : Prop := e = .returned (.tuple #[.agg #[.string ⟨x.code.toArray⟩, .string ⟨x.area.toArray⟩, .string ⟨x.rest.toArray⟩], .int .i64 x.err]) ∧ Below w.heap.size w w'
theorem row3 (w : World) (B : Nat) (v0 v1 v2 : Value) : ((w.setCell ⟨B, 0, none⟩ v0).setCell ⟨B, 1, none⟩ v1).setCell ⟨B, 2, none⟩ v2 = w.setCells B 0 [v0, v1, v2] := rfl
theorem there3 {w : World} {B : Nat} {v0 v1 v2 : Value} (h0 : w.cell? ⟨B, 0, none⟩ = some v0) (h1 : w.cell? ⟨B, 1, none⟩ = some v1) (h2 : w.cell? ⟨B, 2, none⟩ = some v2) (hf : ∀ j, w.frozen? ⟨B, j, none⟩ = false) : w.there B 0 3 := fun j hj => by
  match j, hj with
  | 0, _ => exact ⟨by rw [h0]; rfl, hf _⟩
  | 1, _ => exact ⟨by rw [h1]; rfl, hf _⟩
  | 2, _ => exact ⟨by rw [h2]; rfl, hf _⟩

end Go.Proofs.YtamoclofloijpaaGreatDoor

set_option linter.unusedVariables false
set_option linter.unusedSimpArgs false
namespace Go.Proofs.YtamoclofloijpaaGreatDoor
open Go.RowKit

theorem atoi_l (s : List UInt8) (n : Int) (hl : s.length ≤ 18) (h : Lib.atoi s = some n) (w : World) : Calls Tryz.prog 153 #[.string ⟨s.toArray⟩] w fun e w' => e = .returned (.tuple #[.int .i64 n, .nilIface]) ∧ Below w.heap.size w w' := (Tryz.strconv_Atoi ⟨s.toArray⟩ n hl h w).mono (fun e w' ⟨h1, t, h2⟩ => ⟨h1, by rw [h2]; exact ⟨rfl, rfl, rfl, by rw [Lib.bytesWorld_size]; omega, fun k hk => Lib.bytesWorld_at_old w _ _ k hk⟩⟩)

def r0S : List UInt8 := [43, 49, 48, 48, 48]
def r1S : List UInt8 := [43, 49, 48, 48, 57]
end Go.Proofs.YtamoclofloijpaaGreatDoor

set_option linter.unusedVariables false
set_option linter.unusedSimpArgs false
namespace Go.Proofs.YtamoclofloijpaaGreatDoor
open Go.RowKit

theorem decT_snoc (b : UInt8) : ∀ (d : List UInt8) (acc : Nat), decT acc (d ++ [b]) = decT acc d * 10 + (b.toNat - 48)
  | [], acc => rfl
  | c :: d, acc => by
    show decT (acc * 10 + (c.toNat - 48)) (d ++ [b]) = _
    rw [decT_snoc b d]
    rfl
theorem ofNat_dig {b : UInt8} (h1 : 48 ≤ b.toNat) (h2 : b.toNat ≤ 57) : UInt8.ofNat (48 + (b.toNat - 48)) = b := by
  rw [show 48 + (b.toNat - 48) = b.toNat by omega]
  exact UInt8.ofNat_toNat
theorem digs_mem {l : List UInt8} (h : digs l = true) {b : UInt8} (hb : b ∈ l) : 48 ≤ b.toNat ∧ b.toNat ≤ 57 := by
  unfold digs at h
  have := List.all_eq_true.1 h b hb
  simpa using this
/-- The numeral of what digits say. -/
theorem decDigits_dec : ∀ (n : Nat) (d : List UInt8), d.length = n + 1 → digs d = true → (d.headD 0 ≠ 48 ∨ n = 0) → Lib.decDigits (decT 0 d) = d ∧ (d.headD 0 ≠ 48 → 1 ≤ decT 0 d)
  | 0, d, hl, hd, _ => by
    match d, hl with
    | [b], _ => 
      obtain ⟨h1, h2⟩ := digs_mem hd (b := b) (by simp)
      have e : decT 0 [b] = b.toNat - 48 := by show 0 * 10 + (b.toNat - 48) = _; omega
      rw [e, Lib.decDigits, dif_pos (by omega), ofNat_dig h1 h2]
      refine ⟨rfl, fun h => ?_⟩
      have h3 : b.toNat ≠ 48 := fun h9 => h (by show b = 48; exact UInt8.toNat_inj.1 h9)
      omega
  | n + 1, d, hl, hd, hh => by
    obtain ⟨d', b, rfl⟩ : ∃ d' b, d = d' ++ [b] := ⟨d.dropLast, d.getLast (by intro h; rw [h] at hl; cases hl), (List.dropLast_concat_getLast _).symm⟩
    rw [List.length_append, List.length_singleton] at hl
    have hl' : d'.length = n + 1 := by omega
    rw [digs_app] at hd
    simp only [Bool.and_eq_true] at hd
    obtain ⟨h1, h2⟩ := digs_mem hd.2 (b := b) (by simp)
    have hhd : (d' ++ [b]).headD 0 = d'.headD 0 := by
      cases d' with
      | nil => cases hl'
      | cons x d' => rfl
    rw [hhd] at hh ⊢
    have hne : d'.headD 0 ≠ 48 := hh.elim id (fun h => by cases h)
    obtain ⟨k1, k2⟩ := decDigits_dec n d' hl' hd.1 (Or.inl hne)
    have k3 := k2 hne
    rw [decT_snoc]
    refine ⟨?_, fun _ => by omega⟩
    rw [Lib.decDigits, dif_neg (by omega)]
    rw [show (decT 0 d' * 10 + (b.toNat - 48)) / 10 = decT 0 d' by omega, show (decT 0 d' * 10 + (b.toNat - 48)) % 10 = b.toNat - 48 by omega, k1, ofNat_dig h1 h2]
theorem decDigits_head : ∀ (u : Nat), 1 ≤ u → (Lib.decDigits u).headD 0 ≠ 48 := fun u => by
  induction u using Nat.strongRecOn with
  | ind u ih =>
    intro h
    rw [Lib.decDigits]
    by_cases h9 : u < 10
    · rw [dif_pos h9]
      show UInt8.ofNat (48 + u) ≠ 48
      intro e
      have := congrArg UInt8.toNat e
      rw [UInt8.toNat_ofNat_of_lt' (by show 48 + u < 256; omega)] at this
      have h48 : (48 : UInt8).toNat = 48 := rfl
      omega
    · rw [dif_neg h9]
      have := ih (u / 10) (by omega) (by omega)
      have hne : Lib.decDigits (u / 10) ≠ [] := by
        intro e
        have h3 := Lib.decDigits_length (u / 10)
        rw [e] at h3
        have := Lib.nDigits_pos (u / 10)
        simp at h3
        omega
      cases hc : Lib.decDigits (u / 10) with
      | nil => exact absurd hc hne
      | cons x r => rw [hc] at this; exact this
theorem numeral_iff {d : List UInt8} (h1 : 1 ≤ d.length) (hd : digs d = true) : Lib.decDigits (decT 0 d) = d ↔ (d.headD 0 ≠ 48 ∨ d = [48]) := by
  refine ⟨fun h => ?_, fun h => ?_⟩
  · by_cases hh : d.headD 0 = 48
    · right
      by_cases hu : 1 ≤ decT 0 d
      · have := decDigits_head _ hu
        rw [h] at this
        exact absurd hh this
      · have e : decT 0 d = 0 := by omega
        rw [e, Lib.decDigits, dif_pos (by decide)] at h
        exact h.symm
    · exact Or.inl hh
  · rcases h with h | h
    · exact (decDigits_dec (d.length - 1) d (by omega) hd (Or.inl h)).1
    · subst h
      exact (decDigits_dec 0 [48] rfl hd (Or.inr rfl)).1
/-- Behind a sign; a number that is read. -/
def unsign (s : List UInt8) : List UInt8 := Lib.trimPrefix s [45]
def signB (s : List UInt8) : Bool := Lib.hasPrefix s [45]
def rawB (s : List UInt8) (m : Int) : Bool := digitsB (unsign s) 1 m
def canonB (s : List UInt8) : Bool := !((unsign s).headD 0 == 48) || (decide (unsign s = [48]) && !signB s)
def numOk (s : List UInt8) : Bool := rawB s 12 && canonB s
def numZ (s : List UInt8) : Int := (Lib.atoi s).getD 0
theorem raw_parts {s : List UInt8} {m : Int} (h : rawB s m = true) : 1 ≤ (unsign s).length ∧ ((unsign s).length : Int) ≤ m ∧ digs (unsign s) = true := by
  unfold rawB digitsB at h
  rw [digs_in] at h
  simp only [Bool.and_eq_true, decide_eq_true_eq] at h
  exact ⟨by omega, h.2.1, h.2.2⟩
theorem sign_cases (s : List UInt8) : (signB s = true ∧ s = 45 :: unsign s) ∨ (signB s = false ∧ unsign s = s ∧ s.headD 0 ≠ 45) ∨ s = [] := by
  cases s with
  | nil => exact Or.inr (Or.inr rfl)
  | cons c s =>
    by_cases hc : c = 45
    · subst hc; exact Or.inl ⟨rfl, rfl⟩
    · have h1 : signB (c :: s) = false := by
        show ((45 : UInt8) == c && List.isPrefixOf [] s) = false
        rw [beq_eq_false_iff_ne.2 (Ne.symm hc)]; rfl
      refine Or.inr (Or.inl ⟨h1, ?_, hc⟩)
      unfold unsign Lib.trimPrefix
      have h2 : Lib.hasPrefix (c :: s) [45] = false := h1
      rw [h2]; rfl
theorem decNat_digs {d : List UInt8} (h1 : 1 ≤ d.length) (hd : digs d = true) : Lib.decNat d = some (decT 0 d) := by
  unfold Lib.decNat
  cases d with
  | nil => cases h1
  | cons b r => exact dec_some _ 0 hd
/-- What a row of digits, with a sign or without, is read as. -/
theorem atoi_raw {s : List UInt8} {m : Int} (h : rawB s m = true) : Lib.atoi s = some (if signB s = true then -(decT 0 (unsign s) : Int) else (decT 0 (unsign s) : Int)) := by
  obtain ⟨h1, h2, h3⟩ := raw_parts h
  rcases sign_cases s with ⟨q1, q2⟩ | ⟨q1, q2, q3⟩ | q
  · rw [q1, if_pos rfl]
    rw [show Lib.atoi s = Lib.atoi (45 :: unsign s) by rw [← q2]]
    show (Lib.decNat (unsign s)).map (fun m : Nat => -(m : Int)) = _
    rw [decNat_digs h1 h3]; rfl
  · rw [q1, if_neg (by decide), q2]
    rw [q2] at h1 h3
    cases s with
    | nil => cases h1
    | cons b r =>
      have h4 := digs_mem h3 (b := b) (by simp)
      have e1 : ((b : UInt8) == 45) = false := beq_eq_false_iff_ne.2 q3
      have e2 : ((b : UInt8) == 43) = false := beq_eq_false_iff_ne.2 (fun e => by rw [e] at h4; exact absurd h4.1 (by decide))
      unfold Lib.atoi
      simp only [e1, e2, decNat_digs h1 h3]; rfl
  · subst q; cases h1
theorem dec_bound {s : List UInt8} (h : rawB s 12 = true) : decT 0 (unsign s) < 1000000000000 := by
  obtain ⟨h1, h2, h3⟩ := raw_parts h
  have h4 := dec_lt (unsign s) 0 h3
  have h5 : (10 : Nat) ^ (unsign s).length ≤ 10 ^ 12 := Nat.pow_le_pow_right (by omega) (by omega)
  omega
theorem numZ_raw {s : List UInt8} (h : rawB s 12 = true) : Lib.atoi s = some (numZ s) ∧ -1000000000000 ≤ numZ s ∧ numZ s ≤ 1000000000000 := by
  have h1 := atoi_raw h
  have h2 := dec_bound h
  have e : numZ s = if signB s = true then -(decT 0 (unsign s) : Int) else (decT 0 (unsign s) : Int) := by unfold numZ; rw [h1]; rfl
  rw [e]
  refine ⟨h1, ?_⟩
  split <;> omega
/-- The numeral again: where no needless zero stands, and no sign ahead of nothing. -/
theorem itoa_back {s : List UInt8} (h : rawB s 12 = true) : (Lib.itoa (numZ s) = s) ↔ canonB s = true := by
  obtain ⟨h1, h2, h3⟩ := raw_parts h
  have h4 := atoi_raw h
  have e : numZ s = if signB s = true then -(decT 0 (unsign s) : Int) else (decT 0 (unsign s) : Int) := by unfold numZ; rw [h4]; rfl
  have hn := numeral_iff h1 h3
  unfold canonB
  rcases sign_cases s with ⟨q1, q2⟩ | ⟨q1, q2, q3⟩ | q
  · rw [q1, if_pos rfl] at e
    rw [e, q1]
    simp only [Bool.not_true, Bool.and_false, Bool.or_false, Bool.not_eq_true', beq_eq_false_iff_ne]
    by_cases hz : decT 0 (unsign s) = 0
    · rw [hz]
      have hh : (unsign s).headD 0 = 48 := by
        by_cases hh : (unsign s).headD 0 = 48
        · exact hh
        · have := (decDigits_dec ((unsign s).length - 1) _ (by omega) h3 (Or.inl hh)).2 hh
          omega
      refine ⟨fun h9 => ?_, fun h9 => absurd hh h9⟩
      have h10 : Lib.itoa (-((0 : Nat) : Int)) = [48] := by unfold Lib.itoa; rw [if_neg (by decide)]; rw [Lib.decDigits]; rfl
      rw [h10] at h9
      rw [← h9] at q1
      exact absurd q1 (by decide)
    · have h10 : Lib.itoa (-(decT 0 (unsign s) : Int)) = 45 :: Lib.decDigits (decT 0 (unsign s)) := by
        unfold Lib.itoa
        rw [if_pos (by omega)]
        rw [show (-(decT 0 (unsign s) : Int)).natAbs = decT 0 (unsign s) by omega]
      rw [h10]
      refine ⟨fun h9 => ?_, fun h9 => ?_⟩
      · rw [q2] at h9
        have h11 : Lib.decDigits (decT 0 (unsign s)) = unsign s := by
          have h12 := (List.cons.inj h9).2
          rw [← q2] at h12
          exact h12
        rcases hn.1 h11 with h12 | h12
        · exact h12
        · rw [h12] at hz; exact absurd rfl hz
      · rw [hn.2 (Or.inl h9)]
        exact q2.symm
  · rw [q1, if_neg (by decide)] at e
    rw [e, q1, q2]
    rw [q2] at hn
    have h10 : Lib.itoa (decT 0 s : Int) = Lib.decDigits (decT 0 s) := by
      unfold Lib.itoa
      rw [if_neg (by omega)]
      rfl
    rw [h10, hn]
    simp
  · subst q; cases h1
end Go.Proofs.YtamoclofloijpaaGreatDoor

set_option linter.unusedVariables false
set_option linter.unusedSimpArgs false
namespace Go.Proofs.YtamoclofloijpaaGreatDoor
open Go.RowKit

theorem add_str (e : Operand → Value) (o : Oper) (w : World) (x y : Operand) (a b : List UInt8) (ho : o.op = .binOp .add 9 x y 9) (hx : e x = .string ⟨a.toArray⟩) (hy : e y = .string ⟨b.toArray⟩) (hl : a.length + b.length ≤ 1000000) : (execOp e o).run Tryz.prog w = .ok (.value (.string ⟨(a ++ b).toArray⟩)) w := by
  unfold execOp
  rw [ho]
  simp only [hx, hy]
  rw [← cat_str a b]
  go_simp
  omega
theorem bld_keep {T e : TypeId} {B b : Nat} {bs : List Value} {w w' : World} (h : Lib.IsBuilder T e B b bs w) (hb : Below w.heap.size w w') : Lib.IsBuilder T e B b bs w' := by
  have one : ∀ p, Lib.BuilderAt T e B b p bs w → Lib.BuilderAt T e B b p bs w' := fun p h => by
    have hl := h.lt
    obtain ⟨hB, v, hk, ho, hn⟩ := h
    exact ⟨hB, v, (hb.block b hl).trans hk, own_keep ho hb, hn⟩
  exact h.imp (one _) (one _)
theorem bld_lt {T e : TypeId} {B b : Nat} {bs : List Value} {w : World} (h : Lib.IsBuilder T e B b bs w) : b < w.heap.size := h.elim (·.lt) (·.lt)
theorem itoa_any (n : Int) (h0 : -9223372036854775808 ≤ n) (h1 : n ≤ 9223372036854775807) (S : Nat) (w : World) (hT : TabW S w) : Calls Tryz.prog 40 #[.int .i64 n] w fun e w' => e = .returned (.string ⟨(Lib.itoa n).toArray⟩) ∧ Below w.heap.size w w' := by
  refine (Tryz.strconv_Itoa n h0 h1 w hT.1).mono ?_
  rintro e w' ⟨rfl, k, os, rfl⟩
  exact ⟨rfl, below_grow _ _ _⟩
theorem itoa_len (n : Int) (h0 : -2000000000000 ≤ n) (h1 : n ≤ 2000000000000) : (Lib.itoa n).length ≤ 21 := Lib.itoa_length_le n (by omega) (by omega)
theorem cells_app (a b : List UInt8) : Lib.byteCells a ++ Lib.strCells ⟨b.toArray⟩ = Lib.byteCells (a ++ b) := by
  show Lib.byteCells a ++ Lib.byteCells b = _
  unfold Lib.byteCells
  rw [List.map_append]
theorem size_l (l : List UInt8) : (⟨l.toArray⟩ : ByteArray).size = l.length := by show l.toArray.size = _; simp
theorem cells_len (a : List UInt8) : (Lib.byteCells a).length = a.length := by unfold Lib.byteCells; rw [List.length_map]
end Go.Proofs.YtamoclofloijpaaGreatDoor

set_option linter.unusedVariables false
set_option linter.unusedSimpArgs false
namespace Go.Proofs.YtamoclofloijpaaGreatDoor
open Go.RowKit

/-- What Number answers. -/
def NumPost (s : List UInt8) (w : World) (e : Ending) (w' : World) : Prop := e = .returned (.tuple #[.int .i64 (if numOk s = true then numZ s else 0), .bool (numOk s)]) ∧ Below w.heap.size w w'
theorem cutSign (s : List UInt8) (w : World) : Calls Tryz.prog 134 #[.string ⟨s.toArray⟩, .string ⟨#[45]⟩] w fun e w' => e = .returned (.tuple #[.string ⟨(unsign s).toArray⟩, .bool (signB s)]) ∧ w = w' := (Tryz.strings_CutPrefix ⟨s.toArray⟩ ⟨#[45]⟩ w).mono fun e w' h => ⟨h.1, h.2.symm⟩
theorem unsign_len (s : List UInt8) : (unsign s).length ≤ s.length := by
  unfold unsign Lib.trimPrefix
  split
  · rw [List.length_drop]; omega
  · exact Nat.le_refl _
set_option maxRecDepth 100000 in
set_option maxHeartbeats 4000000 in
theorem number12_any (s : List UInt8) (w : World) (hs : s.length ≤ 1000000) : Calls Tryz.prog 94 #[.string ⟨s.toArray⟩, .int .i64 12] w (NumPost s w) := by
  have HOK : Hid (∀ z b W, (if numOk s = true then numZ s else 0) = z → numOk s = b → Below w.heap.size w W → NumPost s w (.returned (.tuple #[.int .i64 z, .bool b])) W) := fun z b W h1 h2 h3 => by unfold NumPost; rw [h1, h2]; exact ⟨rfl, h3⟩
  have hul := unsign_len s
  have HCUT := Lib.hid (cutSign s w)
  have HTR := Lib.hid (trim_digits ⟨(unsign s).toArray⟩ w (by show (unsign s).toArray.size ≤ _; simp; omega))
  have HNK : Hid (numOk s = ((decide (1 ≤ ((unsign s).length : Int)) && (decide (((unsign s).length : Int) ≤ 12) && (Lib.trimS (unsign s) digitSet).isEmpty)) && (!((unsign s).headD 0 == 48) || (decide (unsign s = [48]) && !signB s)))) := rfl
  have HAT : Hid (rawB s 12 = true → ∀ W, Calls Tryz.prog 153 #[.string ⟨s.toArray⟩] W fun e w' => e = .returned (.tuple #[.int .i64 (numZ s), .nilIface]) ∧ Below W.heap.size W w') := fun h W => by
    obtain ⟨h1, h2, _⟩ := raw_parts h
    have h3 : s.length ≤ 18 := by
      rcases sign_cases s with ⟨_, q⟩ | ⟨_, q, _⟩ | q
      · rw [q, List.length_cons]; omega
      · rw [← q]; omega
      · rw [q]; decide
    exact atoi_l s (numZ s) h3 (numZ_raw h).1 W
  have HRW : Hid (rawB s 12 = (decide (1 ≤ ((unsign s).length : Int)) && (decide (((unsign s).length : Int) ≤ 12) && (Lib.trimS (unsign s) digitSet).isEmpty))) := rfl
  have HTR2 : Hid (Calls Tryz.prog 65 #[.string ⟨(unsign s).toArray⟩, .string ⟨#[48, 49, 50, 51, 52, 53, 54, 55, 56, 57]⟩] w fun e w' => e = .returned (.string ⟨(Lib.trimS (unsign s) digitSet).toArray⟩) ∧ Below w.heap.size w w') := HTR.out
  clear HTR
  generalize NumPost s w = PP at HOK ⊢
  generalize numOk s = NK at HOK HNK
  generalize rawB s 12 = RW at HAT HRW
  generalize numZ s = Z at HOK HAT
  generalize signB s = g at HCUT HNK
  generalize Lib.trimS (unsign s) digitSet = tr at HNK HRW HTR2
  generalize unsign s = d at hul HCUT HNK HRW HTR2
  cases d with
  | nil =>
    have HF : Hid (NK = false) := by show _ = _; rw [HNK.out]; rfl
    clear HNK HAT HRW HTR2
    go_enter Tryz.func94, Tryz.ntmps94
    as_aux_lemma =>
      go_wp2_with fail
      refine HCUT.out.mono ?_
      rintro e w1 ⟨rfl, hw1⟩
      subst hw1
      as_aux_lemma =>
        go_wp2_with fail
        first | exact HOK.out 0 false w (by rw [HF.out]; rfl) HF.out (Below.refl _ _) | (go_ret2; exact HOK.out 0 false w (by rw [HF.out]; rfl) HF.out (Below.refl _ _))
  | cons x m =>
    simp only [List.length_cons] at hul
    by_cases hl : ((x :: m).length : Int) ≤ 12
    case neg =>
      have HF : Hid (NK = false) := by show _ = _; rw [HNK.out, decide_eq_false hl]; simp
      have hl2 : (12 : Int) < (m.length : Int) + 1 := by simp only [List.length_cons] at hl; omega
      clear HNK HAT HRW HTR2 hl
      go_enter Tryz.func94, Tryz.ntmps94
      as_aux_lemma =>
        go_wp2_with fail
        refine HCUT.out.mono ?_
        rintro e w1 ⟨rfl, hw1⟩
        subst hw1
        as_aux_lemma =>
          go_wp2_with fail
          first | exact HOK.out 0 false w (by rw [HF.out]; rfl) HF.out (Below.refl _ _) | (go_ret2; exact HOK.out 0 false w (by rw [HF.out]; rfl) HF.out (Below.refl _ _))
    have hl2 : ¬ (12 : Int) < (m.length : Int) + 1 := by simp only [List.length_cons] at hl; omega
    have h1 : (1 : Int) ≤ (((x :: m).length : Nat) : Int) := by simp only [List.length_cons]; omega
    rw [decide_eq_true hl, decide_eq_true h1] at HNK HRW
    cases tr with
    | cons y r =>
      have HF : Hid (NK = false) := by show _ = _; rw [HNK.out]; rfl
      clear HNK HAT HRW hl h1
      go_enter Tryz.func94, Tryz.ntmps94
      as_aux_lemma =>
        go_wp2_with fail
        refine HCUT.out.mono ?_
        rintro e w1 ⟨rfl, hw1⟩
        subst hw1
        as_aux_lemma =>
          go_wp2_with fail
          refine HTR2.out.mono ?_
          rintro e w2 ⟨rfl, hb2⟩
          have HB2 := Lib.hid hb2
          clear hb2
          as_aux_lemma =>
            go_wp2_with fail
            first | exact HOK.out 0 false w2 (by rw [HF.out]; rfl) HF.out HB2.out | (go_ret2; exact HOK.out 0 false w2 (by rw [HF.out]; rfl) HF.out HB2.out)
    | nil =>
      have HAT2 := Lib.hid (HAT.out HRW.out)
      have HNK2 : Hid (NK = (!(x == 48) || (decide (x :: m = [48]) && !g))) := HNK.out
      clear HNK HAT HRW hl h1
      by_cases hx : x = 48
      · subst hx
        cases m with
        | cons y m2 =>
          have HF : Hid (NK = false) := by show _ = _; rw [HNK2.out]; simp
          clear HNK2 HAT2
          go_enter Tryz.func94, Tryz.ntmps94
          as_aux_lemma =>
            go_wp2_with fail
            refine HCUT.out.mono ?_
            rintro e w1 ⟨rfl, hw1⟩
            subst hw1
            as_aux_lemma =>
              go_wp2_with fail
              refine HTR2.out.mono ?_
              rintro e w2 ⟨rfl, hb2⟩
              have HB2 := Lib.hid hb2
              clear hb2
              as_aux_lemma =>
                go_wp2_with fail
                first | exact HOK.out 0 false w2 (by rw [HF.out]; rfl) HF.out HB2.out | (go_ret2; exact HOK.out 0 false w2 (by rw [HF.out]; rfl) HF.out HB2.out)
        | nil =>
          cases g with
          | true =>
            have HF : Hid (NK = false) := by show _ = _; rw [HNK2.out]; rfl
            clear HNK2 HAT2
            go_enter Tryz.func94, Tryz.ntmps94
            as_aux_lemma =>
              go_wp2_with fail
              refine HCUT.out.mono ?_
              rintro e w1 ⟨rfl, hw1⟩
              subst hw1
              as_aux_lemma =>
                go_wp2_with fail
                refine HTR2.out.mono ?_
                rintro e w2 ⟨rfl, hb2⟩
                have HB2 := Lib.hid hb2
                clear hb2
                as_aux_lemma =>
                  go_wp2_with fail
                  first | exact HOK.out 0 false w2 (by rw [HF.out]; rfl) HF.out HB2.out | (go_ret2; exact HOK.out 0 false w2 (by rw [HF.out]; rfl) HF.out HB2.out)
          | false =>
            have HF : Hid (NK = true) := by show _ = _; rw [HNK2.out]; rfl
            clear HNK2
            go_enter Tryz.func94, Tryz.ntmps94
            as_aux_lemma =>
              go_wp2_with fail
              refine HCUT.out.mono ?_
              rintro e w1 ⟨rfl, hw1⟩
              subst hw1
              as_aux_lemma =>
                go_wp2_with fail
                refine HTR2.out.mono ?_
                rintro e w2 ⟨rfl, hb2⟩
                have HB2 := Lib.hid hb2
                clear hb2
                as_aux_lemma =>
                  go_wp2_with fail
                  refine (HAT2.out _).mono ?_
                  rintro e w3 ⟨rfl, hb3⟩
                  have HB3 := Lib.hid (ext_trans HB2.out hb3)
                  clear hb3 HB2
                  as_aux_lemma =>
                    go_wp2_with fail
                    go_quiet (fail)
                    go_wp2_with fail
                    go_simp
                    exact HOK.out Z true _ (by rw [HF.out]; rfl) HF.out (ext_drewN HB3.out)
      · have hxb : (x == 48) = false := beq_eq_false_iff_ne.2 hx
        have hxn : ¬ ((x.toNat : Int) = 48) := fun h => hx (UInt8.toNat_inj.1 (by have : x.toNat = 48 := by omega
                                                                                  exact this))
        have HF : Hid (NK = true) := by show _ = _; rw [HNK2.out, hxb]; rfl
        clear HNK2 hx hxb
        have hx0 : ((((⟨(x :: m).toArray⟩ : ByteArray)[0]'(by show 0 < (x :: m).toArray.size; simp)).toNat : Int) == 48) = false := beq_eq_false_iff_ne.2 hxn
        go_enter Tryz.func94, Tryz.ntmps94
        as_aux_lemma =>
          go_wp2_with fail
          refine HCUT.out.mono ?_
          rintro e w1 ⟨rfl, hw1⟩
          subst hw1
          as_aux_lemma =>
            go_wp2_with fail
            refine HTR2.out.mono ?_
            rintro e w2 ⟨rfl, hb2⟩
            have HB2 := Lib.hid hb2
            clear hb2
            as_aux_lemma =>
              go_wp2_with fail
              refine (HAT2.out _).mono ?_
              rintro e w3 ⟨rfl, hb3⟩
              have HB3 := Lib.hid (ext_trans HB2.out hb3)
              clear hb3 HB2
              as_aux_lemma =>
                go_wp2_with fail
                go_quiet (fail)
                go_wp2_with fail
                go_simp
                exact HOK.out Z true _ (by rw [HF.out]; rfl) HF.out (ext_drewN HB3.out)
/-- What Int answers. -/
def IntPostD (s : List UInt8) (w : World) (e : Ending) (w' : World) : Prop := ∃ z : Int, e = .returned (.tuple #[.int .i64 z, .bool (numOk s)]) ∧ (numOk s = true → z = numZ s) ∧ Below w.heap.size w w'
end Go.Proofs.YtamoclofloijpaaGreatDoor

set_option linter.unusedVariables false
set_option linter.unusedSimpArgs false
namespace Go.Proofs.YtamoclofloijpaaGreatDoor
open Go.RowKit

theorem Tryz.infoIntD : (Tryz.prog.info? 3).map (fun i => (i.zero, i.size, i.bytes)) = some (some (.int .i64 0), 1, 8) := by kernel_rfl
/-- What of the library lies ahead of block S. -/
structure LibsW (S : Nat) (w : World) : Prop where
  tab : TabW S w
  max_ : ∃ m : Int, w.cell? ⟨3, 0, none⟩ = some (.int .i64 m)
  lt : 3 < S
theorem LibsW.block {S : Nat} {w w' : World} (h : LibsW S w) (h1 : w'.heap[4]? = w.heap[4]?) (h2 : w'.heap[3]? = w.heap[3]?) : LibsW S w' := by
  obtain ⟨m, hm⟩ := h.max_
  refine ⟨tab_block h.tab h1, ⟨m, ?_⟩, h.lt⟩
  rw [← hm]
  unfold World.cell?
  rw [h2]
theorem LibsW.keeps {S : Nat} {w w' : World} (h : LibsW S w) (hk : Keeps S w w') (hS : S < w.heap.size) : LibsW S w' :=
  h.block (hk.block _ (Nat.lt_trans h.tab.2 hS) (Nat.ne_of_lt h.tab.2)) (hk.block _ (Nat.lt_trans h.lt hS) (Nat.ne_of_lt h.lt))
theorem LibsW.below {S B : Nat} {w w' : World} (h : LibsW S w) (hb : Below B w w') (hS : S ≤ B) : LibsW S w' :=
  h.block (hb.block _ (Nat.lt_of_lt_of_le h.tab.2 hS)) (hb.block _ (Nat.lt_of_lt_of_le h.lt hS))
/-- The words of a line. -/
def wordsL (s : List UInt8) : List (List UInt8) := (Lib.splitB ⟨#[32]⟩ 0 (Lib.countB ⟨s.toArray⟩ ⟨#[32]⟩) ⟨s.toArray⟩).map (·.data.toList)
theorem wordsL_len (s : List UInt8) : (wordsL s).length = Lib.countB ⟨s.toArray⟩ ⟨#[32]⟩ + 1 := by
  unfold wordsL
  rw [List.length_map]
  exact Lib.splitB_all ⟨#[32]⟩ (by decide) 0 _ ⟨s.toArray⟩ rfl
theorem wordsL_few (s : List UInt8) : (wordsL s).length ≤ s.length + 1 := by
  have hle := Lib.countB_le ⟨#[32]⟩ (by decide) (⟨s.toArray⟩ : ByteArray).size ⟨s.toArray⟩ (Nat.le_refl _)
  rw [size_l] at hle
  rw [wordsL_len]
  omega
theorem splitK_le (sep : List UInt8) : ∀ (k : Nat) (s : List UInt8), ∀ x ∈ Lib.splitK sep 0 k s, x.length ≤ s.length
  | 0, s, x, h => by
    unfold Lib.splitK at h
    rw [List.mem_singleton.1 h]
    exact Nat.le_refl _
  | k + 1, s, x, h => by
    unfold Lib.splitK at h
    split at h
    · rw [List.mem_singleton.1 h]
      exact Nat.le_refl _
    · rcases List.mem_cons.1 h with h | h
      · rw [h, List.length_take]; omega
      · have := splitK_le sep k _ x h
        rw [List.length_drop] at this
        omega
theorem wordsL_le (s : List UInt8) (i : Nat) : ((wordsL s).getD i []).length ≤ s.length := by
  by_cases hi : i < (wordsL s).length
  · have e : wordsL s = Lib.splitK [32] 0 (Lib.countB ⟨s.toArray⟩ ⟨#[32]⟩) s := Lib.splitB_data ⟨#[32]⟩ 0 _ ⟨s.toArray⟩
    have hm : (wordsL s).getD i [] ∈ wordsL s := mem_getD [] hi
    generalize (wordsL s).getD i [] = x at hm
    rw [e] at hm
    exact splitK_le [32] _ s x hm
  · rw [List.getD_eq_getElem?_getD, List.getElem?_eq_none (by omega)]
    simp
theorem words_cells (s : List UInt8) : (Lib.splitB ⟨#[32]⟩ 0 (Lib.countB ⟨s.toArray⟩ ⟨#[32]⟩) ⟨s.toArray⟩).map Value.string = (wordsL s).map encS := by
  unfold wordsL
  rw [List.map_map]
  refine List.map_congr_left fun b _ => ?_
  show Value.string b = .string ⟨b.data.toList.toArray⟩
  rw [Array.toArray_toList]
theorem splitBl_any (s : List UInt8) (hs : s.length ≤ 1000000) (S : Nat) (w : World) (hL : LibsW S w) : Calls Tryz.prog 152 #[.string ⟨s.toArray⟩, .string ⟨#[32]⟩] w fun e w' => e = .returned (.slice (some ⟨w.heap.size, 0, none⟩) (wordsL s).length (wordsL s).length) ∧ w'.ownsRow w.heap.size 9 1 (.slice (some ⟨w.heap.size, 0, none⟩) (wordsL s).length (wordsL s).length) (wordsL s).length ((wordsL s).map encS) ∧ Below w.heap.size w w' := by
  obtain ⟨m, hm⟩ := hL.max_
  refine (Tryz.strings_SplitT ⟨s.toArray⟩ ⟨#[32]⟩ m w (by rw [size_l]; omega) hm (by decide)).mono ?_
  rintro e w' ⟨rfl, rfl⟩
  rw [wordsL_len, words_cells]
  refine ⟨rfl, ?_, ext_alloc (Below.refl _ _)⟩
  have hle := Lib.countB_le ⟨#[32]⟩ (by decide) (⟨s.toArray⟩ : ByteArray).size ⟨s.toArray⟩ (Nat.le_refl _)
  rw [size_l] at hle
  have := World.ownsRow_lit (base := w.heap.size) (e := 9) (size := 1) w ((wordsL s).map encS).toArray (Lib.countB ⟨s.toArray⟩ ⟨#[32]⟩ + 1) (Nat.le_refl _) (by simp only [maxLen]; omega) (by rw [Nat.mul_one, List.size_toArray, List.length_map, wordsL_len])
  simpa using this
def fullW (xs : List (List UInt8)) : Bool := xs.all fun x => !x.isEmpty
theorem fullW_true {xs : List (List UInt8)} (h : ∀ i, i < xs.length → xs.getD i [] ≠ []) : fullW xs = true := by
  unfold fullW
  rw [List.all_eq_true]
  intro x hx
  obtain ⟨i, hi, rfl⟩ := List.getElem_of_mem hx
  have h1 := h i hi
  rw [List.getD_eq_getElem?_getD, List.getElem?_eq_getElem hi] at h1
  simpa using h1
theorem fullW_false {xs : List (List UInt8)} {i : Nat} (hi : i < xs.length) (h : xs.getD i [] = []) : fullW xs = false := by
  cases hf : fullW xs with
  | false => rfl
  | true =>
    unfold fullW at hf
    have h1 := List.all_eq_true.1 hf (xs.getD i []) (mem_getD [] hi)
    rw [h] at h1
    cases h1
/-- What Words answers. -/
def WordsPost (xs : List (List UInt8)) (w : World) (e : Ending) (w' : World) : Prop := (fullW xs = true → ∃ g : Nat, e = .returned (.tuple #[.slice (some ⟨g, 0, none⟩) xs.length xs.length, .bool true]) ∧ w'.ownsRow w.heap.size 9 1 (.slice (some ⟨g, 0, none⟩) xs.length xs.length) xs.length (xs.map encS)) ∧ (fullW xs = false → e = .returned (.tuple #[.slice none 0 0, .bool false])) ∧ Below w.heap.size w w'
set_option maxRecDepth 100000 in
set_option maxHeartbeats 4000000 in
theorem wordsBl_any (s : List UInt8) (hs : s.length ≤ 1000000) (S : Nat) (w : World) (hL : LibsW S w) : Calls Tryz.prog 93 #[.string ⟨s.toArray⟩] w (WordsPost (wordsL s) w) := by
  have HSP := Lib.hid (splitBl_any s hs S w hL)
  have hwl : ∀ i, ((wordsL s).getD i []).length ≤ 1000000 := fun i => Nat.le_trans (wordsL_le s i) hs
  have HWL := Lib.hid hwl
  have hxn := wordsL_few s
  clear hwl hL
  generalize wordsL s = xs at HSP HWL hxn ⊢
  go_enter Tryz.func93, Tryz.ntmps93
  as_aux_lemma =>
    go_wp2_with fail
    refine HSP.out.mono ?_
    rintro e w1 ⟨rfl, ho, hb⟩
    have HO := Lib.hid ho
    have HB := Lib.hid hb
    clear ho hb HSP
    have HWP : Hid (fullW xs = true → ∀ W, Below w1.heap.size w1 W → WordsPost xs w (.returned (.tuple #[.slice (some ⟨w.heap.size, 0, none⟩) xs.length xs.length, .bool true])) W) := fun h W hW => ⟨(fun _ => ⟨_, rfl, own_keep HO.out hW⟩), (fun h9 => (by rw [h] at h9; cases h9)), ext_trans HB.out hW⟩
    generalize w.heap.size = g at HO HWP ⊢
    as_aux_lemma =>
      go_wp2_with fail
      go_loopw [11] (fun it wr => ∃ i : Nat, i ≤ xs.length ∧ it = .int .i64 i ∧ Hid (∀ j, j < i → xs.getD j [] ≠ []) ∧ Hid (Below w1.heap.size w1 wr)) (fun it _ => xs.length - (intOf it).toNat)
      case atStart => exact ⟨0, Nat.zero_le _, rfl, (fun j h => by omega), Below.refl _ _⟩
      case round =>
        obtain ⟨i, hin, rfl, HN, HW⟩ := hrel
        by_cases hlt : i < xs.length
        case neg =>
          have hnn : ¬ (i : Int) < (xs.length : Int) := by omega
          have hf : fullW xs = true := fullW_true fun j hj => HN.out j (by omega)
          have HE : Hid (WordsPost xs w (.returned (.tuple #[.slice (some ⟨g, 0, none⟩) xs.length xs.length, .bool true])) wr) := HWP.out hf wr HW.out
          as_aux_lemma =>
            go_wp2_with fail
            go_ret2
            exact HE.out
        have hlti : (i : Int) < (xs.length : Int) := by omega
        have c0 : wr.cell? ⟨g, i, none⟩ = some (.string ⟨(xs.getD i []).toArray⟩) := by
          rw [(own_keep HO.out HW.out).cellAt i (by omega)]
          simp [encS, List.getD_eq_getElem?_getD, hlt]
        have hxl := HWL.out i
        have HFF : Hid (xs.getD i [] = [] → fullW xs = false) := fullW_false hlt
        have HNX : Hid (xs.getD i [] ≠ [] → ∀ j, j < i + 1 → xs.getD j [] ≠ []) := fun h j hj => by
          rcases Nat.lt_succ_iff_lt_or_eq.1 hj with h9 | rfl
          · exact HN.out j h9
          · exact h
        generalize xs.getD i [] = x at c0 hxl HFF HNX
        cases x with
        | nil =>
          have HE : Hid (WordsPost xs w (.returned (.tuple #[.slice none 0 0, .bool false])) wr) := ⟨(fun h => (by rw [HFF.out rfl] at h; cases h)), (fun _ => rfl), ext_trans HB.out HW.out⟩
          as_aux_lemma =>
            go_wp2_with fail
            go_ret2
            exact HE.out
        | cons y x =>
          have HN2 := Lib.hid (HNX.out (by simp))
          clear HNX HFF HN
          as_aux_lemma =>
            go_wp2_with fail
            go_roundw
            case rel => exact ⟨i + 1, by omega, by go_num, HN2.out, HW.out⟩
            case measure => simp [intOf]; omega
theorem bl_dkw0 (e : Operand → Value) (he : ∀ v, e (.const v) = v) (o : Oper) (w : World) (i0 : Nat) (z0 : Int) (ho : o.op = .buildSlice 22 1 #[(0, .tmp i0)]) (h0 : e (.tmp i0) = .int .i64 z0) :
   (execOp e o).run Tryz.prog w = .ok (.value (.slice (some ⟨w.heap.size, 0, none⟩) 1 1)) (w.alloc (.cells #[.int .i64 z0] 3)) := by
  unfold execOp
  rw [ho]
  simp only [List.map_toArray, List.map_cons, List.map_nil, h0]
  kernel_rfl
/-- Strings that lie in a row. -/
structure StrAt (w : World) (g o : Nat) (xs : List (List UInt8)) : Prop where
  lt : g < w.heap.size
  cell : ∀ i, i < xs.length → w.cell? ⟨g, o + i, none⟩ = some (.string ⟨(xs.getD i []).toArray⟩)
theorem StrAt.below {w w' : World} {g o : Nat} {xs : List (List UInt8)} (h : StrAt w g o xs) (hb : Below w.heap.size w w') : StrAt w' g o xs :=
  ⟨Nat.lt_of_lt_of_le h.lt hb.size, fun i hi => (hb.cell (p := ⟨g, o + i, none⟩) h.lt).trans (h.cell i hi)⟩
theorem StrAt.of_own {w : World} {base g c : Nat} {n : Nat} {xs : List (List UInt8)} (h : w.ownsRow base 9 1 (.slice (some ⟨g, 0, none⟩) n c) n (xs.map encS)) (o : Nat) : StrAt w g o (xs.drop o) ∨ xs.drop o = [] := by
  have hl : xs.length = n := by have := h.1; simpa using this
  by_cases ho : o < xs.length
  · left
    refine ⟨(h.lt g rfl).2, fun i hi => ?_⟩
    rw [List.length_drop] at hi
    rw [h.cellAt (o + i) (by omega)]
    simp [encS, List.getD_eq_getElem?_getD, List.getElem?_drop, show o + i < xs.length by omega]
  · exact Or.inr (List.drop_eq_nil_of_le (by omega))
def allNum (xs : List (List UInt8)) : Bool := xs.all numOk
theorem allNum_true {xs : List (List UInt8)} (h : ∀ i, i < xs.length → numOk (xs.getD i []) = true) : allNum xs = true := by
  unfold allNum
  rw [List.all_eq_true]
  intro x hx
  obtain ⟨i, hi, rfl⟩ := List.getElem_of_mem hx
  have h1 := h i hi
  rwa [List.getD_eq_getElem?_getD, List.getElem?_eq_getElem hi] at h1
theorem allNum_false {xs : List (List UInt8)} {i : Nat} (hi : i < xs.length) (h : numOk (xs.getD i []) = false) : allNum xs = false := by
  cases hf : allNum xs with
  | false => rfl
  | true =>
    unfold allNum at hf
    have h1 := List.all_eq_true.1 hf (xs.getD i []) (mem_getD [] hi)
    rw [h] at h1
    cases h1
def numsV (xs : List (List UInt8)) : List Value := xs.map fun x => .int .i64 (numZ x)
/-- What Numbers answers. -/
def NumsPost (xs : List (List UInt8)) (w : World) (e : Ending) (w' : World) : Prop := (allNum xs = true → ∃ v, e = .returned (.tuple #[v, .bool true]) ∧ w'.ownsRow w.heap.size 3 1 v xs.length (numsV xs)) ∧ (allNum xs = false → e = .returned (.tuple #[.slice none 0 0, .bool false])) ∧ Below w.heap.size w w'
end Go.Proofs.YtamoclofloijpaaGreatDoor
