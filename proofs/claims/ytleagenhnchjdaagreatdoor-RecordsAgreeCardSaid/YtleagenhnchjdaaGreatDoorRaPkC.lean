/- What is proved here: lemmas and contracts for the statement, put together out of smaller texts (CarrOwn, CarrRows, PlanDraw, PortLit, CarrBox, FlatSet, CarrTwo, OwnK, Posts, BangIs, CloneS, SortS, RefSmall, OrErr, OrdMath, RecVal, RecBase, RecMath, RecLaw, WpVal, PortTab, GrownW, OrN, OrI, OrTwo, SplitPost, Numbered, R2Small). No condition beyond those stated. -/
import Derived.Test.YtleagenhnchjdaaGreatDoorRaPkB
import Derived.Test.YtleagenhnchjdaaGreatDoorRaPkA
import Derived.Deep.MidRow
import Derived.Maps.AppendAt
import Derived.Shelf.SlSortCmp.SmallK
import Derived.Test.YtleagenhnchjdaaGreatDoorShelfSlip
import Derived.Sort.OwnSorted
import Derived.Sort.LotA
import Derived.Lib.Hide
import Derived.Test.YtleagenhnchjdaaGreatDoorShelfPort
import Derived.Lib.ItoaLen
import Derived.Lib.ConvBytes
set_option linter.unusedVariables false
set_option linter.unusedSimpArgs false
namespace Go.Proofs.YtleagenhnchjdaaGreatDoor
open Go.RowKit

/-- The blocks with p stay. -/
def KeepsIf (p : Nat → Prop) (w W : World) : Prop := w.heap.size ≤ W.heap.size ∧ ∀ b, b < w.heap.size → p b → W.heap[b]? = w.heap[b]?
theorem KeepsIf.refl (p : Nat → Prop) (w : World) : KeepsIf p w w := ⟨Nat.le_refl _, fun _ _ _ => rfl⟩
theorem KeepsIf.trans {p : Nat → Prop} {a b c : World} (h : KeepsIf p a b) (k : KeepsIf p b c) : KeepsIf p a c :=
  ⟨Nat.le_trans h.1 k.1, fun i hi hp => (k.2 i (Nat.lt_of_lt_of_le hi h.1) hp).trans (h.2 i hi hp)⟩
theorem KeepsIf.weak {p q : Nat → Prop} {w W : World} (h : KeepsIf p w W) (hq : ∀ b, b < w.heap.size → q b → p b) : KeepsIf q w W := ⟨h.1, fun b hb k => h.2 b hb (hq b hb k)⟩
theorem KeepsIf.of_keeps {p : Nat → Prop} {S : Nat} {w W : World} (h : Keeps S w W) (hp : ∀ b, p b → b ≠ S) : KeepsIf p w W := ⟨h.size, fun b hb k => h.block b hb (hp b k)⟩
theorem KeepsIf.of_below {p : Nat → Prop} {w W : World} (h : Below w.heap.size w W) : KeepsIf p w W := ⟨h.size, fun b hb k => h.block b hb⟩
theorem KeepsIf.grown {p : Nat → Prop} {w W : World} {row : Option Nat} (h : w.grownBy W row) (hp : ∀ b, p b → row ≠ some b) : KeepsIf p w W := ⟨h.size, fun b hb k => h.block b hb (fun e => hp b k e.symm)⟩
theorem KeepsIf.set {p : Nat → Prop} {w : World} {q : Addr} {v : Value} (hp : ∀ b, p b → q.block ≠ b) : KeepsIf p w (w.setCell q v) := ⟨by simp, fun b hb k => Below.heap_setCell _ _ _ _ (fun e => hp b k e.symm)⟩
theorem KeepsIf.alloc {p : Nat → Prop} (w : World) (o : Obj) : KeepsIf p w (w.alloc o) := ⟨by simp, fun b hb k => Below.heap_alloc _ _ _ hb⟩
theorem own_if {p : Nat → Prop} {w W : World} {base : Nat} {e : TypeId} {size : Nat} {v : Value} {n : Nat} {xs : List Value} (h : w.ownsRow base e size v n xs) (hk : KeepsIf p w W) (hp : ∀ b, v.ownBlock = some b → p b) : W.ownsRow base e size v n xs := by
  refine ⟨h.1, h.2.imp id ?_⟩
  rintro ⟨g, cap, cur, rfl, h1, h2, h3⟩
  exact ⟨g, cap, cur, rfl, h1, (hk.2 g (Array.getElem?_eq_some_iff.1 h2).1 (hp g rfl)).trans h2, h3⟩
theorem own_ge {p : Nat → Prop} {w W : World} {base : Nat} {e : TypeId} {size : Nat} {v : Value} {n : Nat} {xs : List Value} (h : w.ownsRow base e size v n xs) (hk : KeepsIf (fun b => base ≤ b) w W) : W.ownsRow base e size v n xs := own_if h hk (fun b e => (h.lt b e).1)
theorem own_caps {w : World} {base : Nat} {e : TypeId} {size : Nat} {a : Option Addr} {m c : Nat} {n : Nat} {xs : List Value} (h : w.ownsRow base e size (.slice a m c) n xs) : m = n ∧ n ≤ c := by
  rcases h.2 with ⟨h1, h0⟩ | ⟨g, cap, cur, h1, _, _, h4, _⟩
  · injection h1 with e1 e2 e3; omega
  · injection h1 with e1 e2 e3; omega

/-- Rates with bounds. -/
def RatesOk (l : List Rate) : Prop := l.length ≤ 50 ∧ ∀ r ∈ l, r.p.length ≤ 100 ∧ -2000000000000 ≤ r.price ∧ r.price ≤ 2000000000000
def DeckBounds (d : Deck) : Prop := (-2000000000000 ≤ d.from_ ∧ d.from_ ≤ 2000000000000) ∧ (-2000000000000 ≤ d.setup ∧ d.setup ≤ 2000000000000) ∧ (-2000000000000 ≤ d.least ∧ d.least ≤ 2000000000000) ∧ (-2000000000000 ≤ d.step ∧ d.step ≤ 2000000000000)
theorem mem_getD {α : Type} {l : List α} {i : Nat} (d : α) (h : i < l.length) : l.getD i d ∈ l := by
  rw [List.getD_eq_getElem?_getD, List.getElem?_eq_getElem h]
  exact List.getElem_mem h
/-- Decks that stay where the blocks with p stay. -/
def DecksIf (p : Nat → Prop) (w : World) (l : List Deck) : Prop := ∀ W, KeepsIf p w W → ∀ i, i < l.length → DeckFine W (l.getD i noDeck)
theorem DecksIf.nil (p : Nat → Prop) (w : World) : DecksIf p w [] := fun W hW i hi => by cases hi
theorem DecksIf.on {p q : Nat → Prop} {w w' : World} {l : List Deck} (h : DecksIf p w l) (hk : ∀ W, KeepsIf q w' W → KeepsIf p w W) : DecksIf q w' l := fun W hW => h W (hk W hW)
theorem getD_snoc {α : Type} (l : List α) (x d : α) (i : Nat) : (l ++ [x]).getD i d = if i < l.length then l.getD i d else if i = l.length then x else d := by
  by_cases h : i < l.length
  · rw [if_pos h]; simp [List.getElem?_append_left h]
  · rw [if_neg h]
    by_cases h2 : i = l.length
    · subst h2; simp
    · rw [if_neg h2, List.getD_eq_getElem?_getD, List.getElem?_eq_none (by simp; omega)]; rfl
theorem DecksIf.snoc {p : Nat → Prop} {w : World} {l : List Deck} {d : Deck} (h : DecksIf p w l) (hd : ∀ W, KeepsIf p w W → DeckFine W d) : DecksIf p w (l ++ [d]) := fun W hW i hi => by
  rw [getD_snoc]
  by_cases h1 : i < l.length
  · rw [if_pos h1]; exact h W hW i h1
  · rw [if_neg h1, if_pos (by simp at hi; omega)]; exact hd W hW
/-- Carriers that stay where the blocks with p stay. -/
def CarrsIf (p : Nat → Prop) (w : World) (l : List Carr) : Prop := ∀ W, KeepsIf p w W → ∀ i, i < l.length → CarrFine W (l.getD i noCarr)
theorem CarrsIf.nil (p : Nat → Prop) (w : World) : CarrsIf p w [] := fun W hW i hi => by cases hi
theorem CarrsIf.on {p q : Nat → Prop} {w w' : World} {l : List Carr} (h : CarrsIf p w l) (hk : ∀ W, KeepsIf q w' W → KeepsIf p w W) : CarrsIf q w' l := fun W hW => h W (hk W hW)
theorem CarrsIf.snoc {p : Nat → Prop} {w : World} {l : List Carr} {d : Carr} (h : CarrsIf p w l) (hd : ∀ W, KeepsIf p w W → CarrFine W d) : CarrsIf p w (l ++ [d]) := fun W hW i hi => by
  rw [getD_snoc]
  by_cases h1 : i < l.length
  · rw [if_pos h1]; exact h W hW i h1
  · rw [if_neg h1, if_pos (by simp at hi; omega)]; exact hd W hW
theorem CarrsIf.set {p : Nat → Prop} {w : World} {l : List Carr} {d : Carr} {r : Nat} (h : CarrsIf p w l) (hd : ∀ W, KeepsIf p w W → CarrFine W d) : CarrsIf p w (l.set r d) := fun W hW i hi => by
  have hi2 : i < l.length := by simpa using hi
  by_cases h1 : i = r
  · subst h1
    have : (l.set i d).getD i noCarr = d := by simp [hi2]
    rw [this]; exact hd W hW
  · have : (l.set r d).getD i noCarr = l.getD i noCarr := by simp [List.getElem?_set, Ne.symm h1]
    rw [this]; exact h W hW i hi2
end Go.Proofs.YtleagenhnchjdaaGreatDoor

set_option linter.unusedVariables false
set_option linter.unusedSimpArgs false
namespace Go.Proofs.YtleagenhnchjdaaGreatDoor
open Go.RowKit

structure ShrRow (w : World) (a : Option Addr) (n : Nat) (l : List Shr) : Prop where
  cells : Cells w 2 a n (l.map Shr.cells)
  few : n ≤ 50
  each : ∀ i, i < l.length → (l.getD i noShr).c.length ≤ 100 ∧ -2000000000000 ≤ (l.getD i noShr).part ∧ (l.getD i noShr).part ≤ 2000000000000
theorem ShrRow.below {w w' : World} {a : Option Addr} {n : Nat} {l : List Shr} (h : ShrRow w a n l) (hb : Below w.heap.size w w') : ShrRow w' a n l := ⟨h.cells.below hb, h.few, h.each⟩
theorem ShrRow.len {w : World} {a : Option Addr} {n : Nat} {l : List Shr} (h : ShrRow w a n l) : n = l.length := by have := h.cells.len; simpa using this
theorem ShrRow.at {w : World} {a : Option Addr} {n : Nat} {l : List Shr} (h : ShrRow w a n l) (hn : 0 < n) : ∃ b off, a = some ⟨b, off, none⟩ ∧ b < w.heap.size ∧ ∀ i, i < n → w.cell? ⟨b, off + i * 2, none⟩ = some (.string ⟨(l.getD i noShr).c.toArray⟩) ∧ w.cell? ⟨b, off + i * 2 + 1, none⟩ = some (.int .i64 (l.getD i noShr).part) := by
  have hl := h.len
  rcases h.cells.row with h0 | ⟨b, off, ha, hb, hc⟩
  · omega
  · refine ⟨b, off, ha, hb, fun i hi => ?_⟩
    have k0 := hc i hi 0 (by omega)
    have k1 := hc i hi 1 (by omega)
    rw [getD_map Shr.cells l i noShr [] (by omega)] at k0 k1
    exact ⟨k0, k1⟩
theorem ShrRow.of_own {w : World} {base : Nat} {e : TypeId} {v : Value} {n : Nat} {l : List Shr} (h : w.ownsRow base e 2 v n ((l.map Shr.cells).flatten)) (hf : n ≤ 50) (he : ∀ i, i < l.length → (l.getD i noShr).c.length ≤ 100 ∧ -2000000000000 ≤ (l.getD i noShr).part ∧ (l.getD i noShr).part ≤ 2000000000000) : ∃ a c, v = .slice a n c ∧ n ≤ c ∧ ShrRow w a n l := by
  obtain ⟨a, c, rfl, hcs⟩ := Cells.of_own h (fun x hx => by obtain ⟨y, _, rfl⟩ := List.mem_map.1 hx; rfl) (by decide)
  exact ⟨a, c, rfl, (own_caps h).2, ⟨hcs, hf, he⟩⟩
structure RcdRow (w : World) (a : Option Addr) (n : Nat) (l : List Rcd) : Prop where
  cells : Cells w 8 a n (l.map Rcd.cells)
  few : n ≤ 100
  each : ∀ i, i < l.length → (l.getD i noRcd).id.length ≤ 100 ∧ (l.getD i noRcd).fr.length ≤ 100 ∧ (l.getD i noRcd).to_.length ≤ 100 ∧ (l.getD i noRcd).carrier.length ≤ 100 ∧ (-2000000000000 ≤ (l.getD i noRcd).at_ ∧ (l.getD i noRcd).at_ ≤ 2000000000000) ∧ (-2000000000000 ≤ (l.getD i noRcd).ring ∧ (l.getD i noRcd).ring ≤ 2000000000000) ∧ (-2000000000000 ≤ (l.getD i noRcd).talk ∧ (l.getD i noRcd).talk ≤ 2000000000000) ∧ (-2000000000000 ≤ (l.getD i noRcd).how ∧ (l.getD i noRcd).how ≤ 2000000000000)
theorem RcdRow.below {w w' : World} {a : Option Addr} {n : Nat} {l : List Rcd} (h : RcdRow w a n l) (hb : Below w.heap.size w w') : RcdRow w' a n l := ⟨h.cells.below hb, h.few, h.each⟩
theorem RcdRow.len {w : World} {a : Option Addr} {n : Nat} {l : List Rcd} (h : RcdRow w a n l) : n = l.length := by have := h.cells.len; simpa using this
theorem RcdRow.at {w : World} {a : Option Addr} {n : Nat} {l : List Rcd} (h : RcdRow w a n l) (hn : 0 < n) : ∃ b off, a = some ⟨b, off, none⟩ ∧ b < w.heap.size ∧ ∀ i, i < n → w.cell? ⟨b, off + i * 8, none⟩ = some (.string ⟨(l.getD i noRcd).id.toArray⟩) ∧ w.cell? ⟨b, off + i * 8 + 1, none⟩ = some (.string ⟨(l.getD i noRcd).fr.toArray⟩) ∧ w.cell? ⟨b, off + i * 8 + 2, none⟩ = some (.string ⟨(l.getD i noRcd).to_.toArray⟩) ∧ w.cell? ⟨b, off + i * 8 + 3, none⟩ = some (.int .i64 (l.getD i noRcd).at_) ∧ w.cell? ⟨b, off + i * 8 + 4, none⟩ = some (.int .i64 (l.getD i noRcd).ring) ∧ w.cell? ⟨b, off + i * 8 + 5, none⟩ = some (.int .i64 (l.getD i noRcd).talk) ∧ w.cell? ⟨b, off + i * 8 + 6, none⟩ = some (.int .i64 (l.getD i noRcd).how) ∧ w.cell? ⟨b, off + i * 8 + 7, none⟩ = some (.string ⟨(l.getD i noRcd).carrier.toArray⟩) := by
  have hl := h.len
  rcases h.cells.row with h0 | ⟨b, off, ha, hb, hc⟩
  · omega
  · refine ⟨b, off, ha, hb, fun i hi => ?_⟩
    have k0 := hc i hi 0 (by omega)
    have k1 := hc i hi 1 (by omega)
    have k2 := hc i hi 2 (by omega)
    have k3 := hc i hi 3 (by omega)
    have k4 := hc i hi 4 (by omega)
    have k5 := hc i hi 5 (by omega)
    have k6 := hc i hi 6 (by omega)
    have k7 := hc i hi 7 (by omega)
    rw [getD_map Rcd.cells l i noRcd [] (by omega)] at k0 k1 k2 k3 k4 k5 k6 k7
    exact ⟨k0, k1, k2, k3, k4, k5, k6, k7⟩
theorem RcdRow.of_own {w : World} {base : Nat} {e : TypeId} {v : Value} {n : Nat} {l : List Rcd} (h : w.ownsRow base e 8 v n ((l.map Rcd.cells).flatten)) (hf : n ≤ 100) (he : ∀ i, i < l.length → (l.getD i noRcd).id.length ≤ 100 ∧ (l.getD i noRcd).fr.length ≤ 100 ∧ (l.getD i noRcd).to_.length ≤ 100 ∧ (l.getD i noRcd).carrier.length ≤ 100 ∧ (-2000000000000 ≤ (l.getD i noRcd).at_ ∧ (l.getD i noRcd).at_ ≤ 2000000000000) ∧ (-2000000000000 ≤ (l.getD i noRcd).ring ∧ (l.getD i noRcd).ring ≤ 2000000000000) ∧ (-2000000000000 ≤ (l.getD i noRcd).talk ∧ (l.getD i noRcd).talk ≤ 2000000000000) ∧ (-2000000000000 ≤ (l.getD i noRcd).how ∧ (l.getD i noRcd).how ≤ 2000000000000)) : ∃ a c, v = .slice a n c ∧ n ≤ c ∧ RcdRow w a n l := by
  obtain ⟨a, c, rfl, hcs⟩ := Cells.of_own h (fun x hx => by obtain ⟨y, _, rfl⟩ := List.mem_map.1 hx; rfl) (by decide)
  exact ⟨a, c, rfl, (own_caps h).2, ⟨hcs, hf, he⟩⟩
end Go.Proofs.YtleagenhnchjdaaGreatDoor

set_option linter.unusedVariables false
set_option linter.unusedSimpArgs false
namespace Go.Proofs.YtleagenhnchjdaaGreatDoor
open Go.RowKit

theorem range_gen (S k : Nat) (lo hi : Int) (w : World) (h : StreamOk w S k) (hk : k ≤ 1000000000) (h2 : -4611686018427387904 ≤ lo) (h3 : hi ≤ 4611686018427387000) :
    Calls Tryz.prog 110 #[.pointer (some ⟨S, 0, none⟩), .int .i64 lo, .int .i64 hi] w (PickPost S (k + 1) (fun r => lo ≤ r ∧ (r ≤ lo ∨ r ≤ hi)) w) := by
  by_cases hlt : hi < lo
  · have HS := Lib.hid (h.mono (Nat.le_succ _))
    clear h
    go_enter Tryz.func110, Tryz.ntmps110
    go_wp2_with fail
    go_ret
    exact ⟨lo, rfl, ⟨Int.le_refl _, Or.inl (Int.le_refl _)⟩, HS.out, Keeps.refl _ _⟩
  · refine (range_any S k lo hi w h hk (by omega) h2 h3).mono ?_
    rintro e w' ⟨r, rfl, r0, r1, hst, hkp⟩
    exact ⟨r, rfl, ⟨r0, Or.inr r1⟩, hst, hkp⟩

set_option maxRecDepth 100000 in
theorem odd_any (S k : Nat) (lo hi : Int) (w : World) (h : StreamOk w S k) (hk : k ≤ 100000000) (h0 : 0 ≤ lo) (h1 : lo ≤ hi) (h2 : hi ≤ 400000000000) :
    Calls Tryz.prog 69 #[.pointer (some ⟨S, 0, none⟩), .int .i64 lo, .int .i64 hi] w (PickPost S (k + 2) (fun r => -1099511627776 ≤ r ∧ r ≤ 1099511627776) w) := by
  have HS := Lib.hid h
  have hlt := h.lt
  clear h
  go_enter Tryz.func69, Tryz.ntmps69
  go_wp2_with fail
  refine (flip_any S k 12 _ HS.out (by omega) (by decide) (by decide)).mono ?_
  rintro e w1 ⟨r, rfl, hst, hkp⟩
  have HS1 := Lib.hid hst
  have HK1 := Lib.hid hkp
  have hl1 := hst.lt
  clear hst hkp
  cases r
  · go_wp2_with fail
    refine (range_any S (k + 1) lo hi _ HS1.out (by omega) h1 (by omega) (by omega)).mono ?_
    rintro e w2 ⟨r, rfl, r0, r1, hst2, hkp2⟩
    have HK2 := Lib.hid (HK1.out.trans hkp2)
    have HS2 := Lib.hid hst2
    clear hst2 hkp2
    go_wp2_with fail
    go_ret
    exact ⟨r, rfl, ⟨by omega, by omega⟩, HS2.out, HK2.out⟩
  · go_wp2_with fail
    refine (pick_any S (k + 1) w1.heap.size 6 6 [lo - 1, hi + 1, lo, hi, -1099511627776, 1099511627776] (fun r => -1099511627776 ≤ r ∧ r ≤ 1099511627776) _ (HS1.out.below (ext_alloc (Below.refl _ _))) (by omega) (by simp) (by omega) (by omega) (by omega) (fun i h9 => by match i, h9 with | 0, _ | 1, _ | 2, _ | 3, _ | 4, _ | 5, _ => go_simp) (fun i h9 => by match i, h9 with | 0, _ => exact ⟨by show _ ≤ lo - 1; omega, by show lo - 1 ≤ _; omega⟩ | 1, _ => exact ⟨by show _ ≤ hi + 1; omega, by show hi + 1 ≤ _; omega⟩ | 2, _ => exact ⟨by show _ ≤ lo; omega, by show lo ≤ _; omega⟩ | 3, _ => exact ⟨by show _ ≤ hi; omega, by show hi ≤ _; omega⟩ | 4, _ => exact ⟨by show (-1099511627776 : Int) ≤ -1099511627776; decide, by show (-1099511627776 : Int) ≤ 1099511627776; decide⟩ | 5, _ => exact ⟨by show (-1099511627776 : Int) ≤ 1099511627776; decide, by show (1099511627776 : Int) ≤ 1099511627776; decide⟩)).mono ?_
    rintro e w2 ⟨r, rfl, hr, hst2, hkp2⟩
    have HK2 := Lib.hid ((HK1.out.alloc _).trans hkp2)
    have HS2 := Lib.hid hst2
    have HR := Lib.hid hr
    clear hst2 hkp2 hr
    go_wp2_with fail
    go_ret
    exact ⟨r, rfl, HR.out, HS2.out, HK2.out⟩

/-! ### Plans in memory that may be written -/
/-- Country i of a plan in block P, with its areas in a block of their own. -/
structure CtryAt (S P : Nat) (base : Nat) (w : World) (i : Nat) (c : Ctry) (b : Nat) : Prop where
  cells : ∀ j, j < 4 → w.cell? ⟨P, i * 4 + j, none⟩ = c.cells[j]?
  fine : CtryFine w c
  some : 1 ≤ c.an
  at_ : c.aa = Option.some ⟨b, 0, none⟩
  off : b ≠ S
  offP : b ≠ P
  lt : b < w.heap.size
  new : base ≤ b
  fro : ∀ j, w.frozen? ⟨b, j, none⟩ = false
structure PlanAt (S P : Nat) (base : Nat) (w : World) (l : List Ctry) (bs : List Nat) : Prop where
  len : l.length = 3
  each : ∀ i, i < 3 → CtryAt S P base w i (l.getD i noCtry) (bs.getD i 0)
  offS : P ≠ S
  lt : P < w.heap.size
  new : base ≤ P
  fro : ∀ j, w.frozen? ⟨P, j, none⟩ = false

def areaCells (l : List Area) : List Value := l.flatMap Area.cells
/-- A plan that a stream has handed out. -/
def PlanPost (S k : Nat) (w : World) (e : Ending) (w' : World) : Prop :=
  ∃ (P : Nat) (l : List Ctry), e = .returned (.slice (some ⟨P, 0, none⟩) 3 3) ∧ (∀ w9, Keeps S w' w9 → CtryRow w9 (some ⟨P, 0, none⟩) 3 l) ∧ (∀ i, i < l.length → 1 ≤ (l.getD i noCtry).an) ∧ StreamOk w' S k ∧ Keeps S w w'

theorem AreaRow.keeps {S : Nat} {w w' : World} {b n : Nat} {l : List Area} (h : AreaRow w (some ⟨b, 0, none⟩) n l) (hb : b ≠ S) (hk : Keeps S w w') : AreaRow w' (some ⟨b, 0, none⟩) n l := by
  refine ⟨h.len, h.row.imp id ?_⟩
  rintro ⟨b9, off, ha, hl, hc⟩
  injection ha with ha
  injection ha with e1 e2
  subst e1 e2
  exact ⟨b, 0, rfl, Nat.lt_of_lt_of_le hl hk.size, fun i hi j hj => (hk.cell (p := ⟨b, 0 + i * 3 + j, none⟩) hl hb).trans (hc i hi j hj)⟩
theorem CtryAt.keeps {S P base : Nat} {w w' : World} {i : Nat} {c : Ctry} {b : Nat} (h : CtryAt S P base w i c b) (hP : P < w.heap.size) (hS : P ≠ S) (hk : Keeps S w w') : CtryAt S P base w' i c b :=
  ⟨fun j hj => (hk.cell (p := ⟨P, i * 4 + j, none⟩) hP hS).trans (h.cells j hj), ⟨h.fine.code, h.fine.abroad, h.fine.trunk, h.fine.many, by have := h.fine.row; rw [h.at_] at this ⊢; exact this.keeps h.off hk, h.fine.each⟩, h.some, h.at_, h.off, h.offP, Nat.lt_of_lt_of_le h.lt hk.size, h.new, fun j => (hk.frozen (p := ⟨b, j, none⟩) h.lt h.off).trans (h.fro j)⟩
theorem PlanAt.keeps {S P base : Nat} {w w' : World} {l : List Ctry} {bs : List Nat} (h : PlanAt S P base w l bs) (hk : Keeps S w w') : PlanAt S P base w' l bs :=
  ⟨h.len, fun i hi => (h.each i hi).keeps h.lt h.offS hk, h.offS, Nat.lt_of_lt_of_le h.lt hk.size, h.new, fun j => (hk.frozen (p := ⟨P, j, none⟩) h.lt h.offS).trans (h.fro j)⟩
theorem PlanAt.row {S P base : Nat} {w : World} {l : List Ctry} {bs : List Nat} (h : PlanAt S P base w l bs) : CtryRow w (some ⟨P, 0, none⟩) 3 l :=
  ⟨h.len.symm, by omega, Or.inr ⟨P, 0, rfl, h.lt, fun i hi j hj => by rw [Nat.zero_add]; exact (h.each i hi).cells j hj⟩, fun i hi => (h.each i (by rw [h.len] at hi; exact hi)).fine⟩
theorem PlanAt.post {S P k : Nat} {w w' : World} {l : List Ctry} {bs : List Nat} {base : Nat} (h : PlanAt S P base w' l bs) (hs : StreamOk w' S k) (hk : Keeps S w w') : PlanPost S k w (.returned (.slice (some ⟨P, 0, none⟩) 3 3)) w' :=
  ⟨P, l, rfl, fun w9 h9 => (h.keeps h9).row, fun i hi => (h.each i (by rw [h.len] at hi; exact hi)).some, hs, hk⟩

/-- One area, written out. -/
def ar (p : List UInt8) (lo hi : Int) : Area := ⟨p, lo, hi⟩
theorem area_row2 {w : World} {b : Nat} {x y : Area} (hb : b < w.heap.size) (h : ∀ j v, ((x.cells ++ y.cells) : List Value)[j]? = some v → w.cell? ⟨b, j, none⟩ = some v) : AreaRow w (some ⟨b, 0, none⟩) 2 [x, y] := by
  refine ⟨rfl, Or.inr ⟨b, 0, rfl, hb, fun i hi j hj => ?_⟩⟩
  match i, hi, j, hj with
  | 0, _, 0, _ => exact h 0 _ rfl
  | 0, _, 1, _ => exact h 1 _ rfl
  | 0, _, 2, _ => exact h 2 _ rfl
  | 1, _, 0, _ => exact h 3 _ rfl
  | 1, _, 1, _ => exact h 4 _ rfl
  | 1, _, 2, _ => exact h 5 _ rfl
theorem area_row3 {w : World} {b : Nat} {x y z : Area} (hb : b < w.heap.size) (h : ∀ j v, ((x.cells ++ y.cells ++ z.cells) : List Value)[j]? = some v → w.cell? ⟨b, j, none⟩ = some v) : AreaRow w (some ⟨b, 0, none⟩) 3 [x, y, z] := by
  refine ⟨rfl, Or.inr ⟨b, 0, rfl, hb, fun i hi j hj => ?_⟩⟩
  match i, hi, j, hj with
  | 0, _, 0, _ => exact h 0 _ rfl
  | 0, _, 1, _ => exact h 1 _ rfl
  | 0, _, 2, _ => exact h 2 _ rfl
  | 1, _, 0, _ => exact h 3 _ rfl
  | 1, _, 1, _ => exact h 4 _ rfl
  | 1, _, 2, _ => exact h 5 _ rfl
  | 2, _, 0, _ => exact h 6 _ rfl
  | 2, _, 1, _ => exact h 7 _ rfl
  | 2, _, 2, _ => exact h 8 _ rfl

theorem heap_new (w : World) (o : Obj) : (w.alloc o).heap[w.heap.size]? = some o := by unfold World.alloc; simp
theorem block_cell {w : World} {b : Nat} {cs : Array Value} {t : TypeId} (h : w.heap[b]? = some (.cells cs t)) (j : Nat) : w.cell? ⟨b, j, none⟩ = cs[j]? := by simp [World.cell?, h]
theorem block_fro {w : World} {b : Nat} {cs : Array Value} {t : TypeId} (h : w.heap[b]? = some (.cells cs t)) (j : Nat) : w.frozen? ⟨b, j, none⟩ = false := by simp [World.frozen?, h]

end Go.Proofs.YtleagenhnchjdaaGreatDoor

set_option linter.unusedVariables false
set_option linter.unusedSimpArgs false
namespace Go.Proofs.YtleagenhnchjdaaGreatDoor
open Go.RowKit

theorem pick_lit (S k : Nat) (vals : List Int) (P : Int → Prop) (w : World) (cs : Array Value) (n : Nat) (h : StreamOk w S k) (hk : k ≤ 1000000000) (hcs : cs.toList = vals.map (Value.int .i64)) (hn : n = vals.length) (h1 : 1 ≤ vals.length) (h2 : vals.length ≤ 1000) (hP : ∀ x ∈ vals, P x) :
    Calls Tryz.prog 28 #[.pointer (some ⟨S, 0, none⟩), .slice (some ⟨w.heap.size, 0, none⟩) n n] (w.alloc (.cells cs 3)) (PickPost S (k + 1) P w) := by
  have hl := h.lt
  subst hn
  have hcs' : cs = (vals.map (Value.int .i64)).toArray := by rw [← hcs]
  subst hcs'
  refine (pick_any S k w.heap.size vals.length vals.length vals P _ (h.below (ext_alloc (Below.refl _ _))) hk (by simp) (by omega) h1 h2 (fun i hi => ?_) (fun i hi => ?_)).mono ?_
  · exact (new_cell w _ 3 (0, 0) i).trans (by simp [hi])
  · rw [show vals.getD i _ = vals[i] by simp [hi]]
    exact hP _ (List.getElem_mem hi)
  · rintro e w' ⟨r, rfl, hr, hst, hkp⟩
    exact ⟨r, rfl, hr, hst, (Keeps.of_below (ext_alloc (Below.refl _ _))).trans hkp⟩
theorem some_lit (S k : Nat) (vals : List (List UInt8)) (P : List UInt8 → Prop) (w : World) (cs : Array Value) (n : Nat) (h : StreamOk w S k) (hk : k ≤ 1000000000) (hcs : cs.toList = vals.map fun s => Value.string ⟨s.toArray⟩) (hn : n = vals.length) (h1 : 1 ≤ vals.length) (h2 : vals.length ≤ 1000) (hP : ∀ x ∈ vals, P x) :
    Calls Tryz.prog 31 #[.pointer (some ⟨S, 0, none⟩), .slice (some ⟨w.heap.size, 0, none⟩) n n] (w.alloc (.cells cs 9)) (SomePost S (k + 1) P w) := by
  have hl := h.lt
  subst hn
  have hcs' : cs = (vals.map fun s => Value.string ⟨s.toArray⟩).toArray := by rw [← hcs]
  subst hcs'
  refine (some_any S k w.heap.size vals.length vals.length vals P _ (h.below (ext_alloc (Below.refl _ _))) hk (by simp) (by omega) h1 h2 (fun i hi => ?_) (fun i hi => ?_)).mono ?_
  · exact (new_cell w _ 9 (0, 0) i).trans (by simp [hi])
  · rw [show vals.getD i _ = vals[i] by simp [hi]]
    exact hP _ (List.getElem_mem hi)
  · rintro e w' ⟨r, rfl, hr, hst, hkp⟩
    exact ⟨r, rfl, hr, hst, (Keeps.of_below (ext_alloc (Below.refl _ _))).trans hkp⟩

theorem bs_p6 (e : Operand → Value) (he : ∀ v, e (.const v) = v) (o : Oper) (w : World) (ho : o.op = .buildSlice 22 6 #[(0, .const (.int .i64 0)), (1, .const (.int .i64 0)), (2, .const (.int .i64 1)), (3, .const (.int .i64 9)), (4, .const (.int .i64 99)), (5, .const (.int .i64 300))]) :
   (execOp e o).run Tryz.prog w = .ok (.value (.slice (some ⟨w.heap.size, 0, none⟩) 6 6)) (w.alloc (.cells #[.int .i64 0, .int .i64 0, .int .i64 1, .int .i64 9, .int .i64 99, .int .i64 300] 3)) := by
  unfold execOp
  rw [ho]
  simp only [List.map_toArray, List.map_cons, List.map_nil, he]
  kernel_rfl
theorem bs_p5 (e : Operand → Value) (he : ∀ v, e (.const v) = v) (o : Oper) (w : World) (ho : o.op = .buildSlice 22 5 #[(0, .const (.int .i64 2)), (1, .const (.int .i64 2)), (2, .const (.int .i64 3)), (3, .const (.int .i64 10)), (4, .const (.int .i64 50))]) :
   (execOp e o).run Tryz.prog w = .ok (.value (.slice (some ⟨w.heap.size, 0, none⟩) 5 5)) (w.alloc (.cells #[.int .i64 2, .int .i64 2, .int .i64 3, .int .i64 10, .int .i64 50] 3)) := by
  unfold execOp
  rw [ho]
  simp only [List.map_toArray, List.map_cons, List.map_nil, he]
  kernel_rfl
theorem bs_p3 (e : Operand → Value) (he : ∀ v, e (.const v) = v) (o : Oper) (w : World) (ho : o.op = .buildSlice 22 3 #[(0, .const (.int .i64 1)), (1, .const (.int .i64 10)), (2, .const (.int .i64 50))]) :
   (execOp e o).run Tryz.prog w = .ok (.value (.slice (some ⟨w.heap.size, 0, none⟩) 3 3)) (w.alloc (.cells #[.int .i64 1, .int .i64 10, .int .i64 50] 3)) := by
  unfold execOp
  rw [ho]
  simp only [List.map_toArray, List.map_cons, List.map_nil, he]
  kernel_rfl
theorem bs_inst (e : Operand → Value) (he : ∀ v, e (.const v) = v) (o : Oper) (w : World) (i8 i9 i10 : Nat) (z8 z9 z10 : Int) (ho : o.op = .buildSlice 22 11 #[(0, .const (.int .i64 0)), (1, .const (.int .i64 5)), (2, .const (.int .i64 10)), (3, .const (.int .i64 20)), (4, .const (.int .i64 30)), (5, .const (.int .i64 40)), (6, .const (.int .i64 60)), (7, .const (.int .i64 100)), (8, .tmp i8), (9, .tmp i9), (10, .tmp i10)]) (h8 : e (.tmp i8) = .int .i64 z8) (h9 : e (.tmp i9) = .int .i64 z9) (h10 : e (.tmp i10) = .int .i64 z10) :
   (execOp e o).run Tryz.prog w = .ok (.value (.slice (some ⟨w.heap.size, 0, none⟩) 11 11)) (w.alloc (.cells #[.int .i64 0, .int .i64 5, .int .i64 10, .int .i64 20, .int .i64 30, .int .i64 40, .int .i64 60, .int .i64 100, .int .i64 z8, .int .i64 z9, .int .i64 z10] 3)) := by
  unfold execOp
  rw [ho]
  simp only [List.map_toArray, List.map_cons, List.map_nil, he, h8, h9, h10]
  kernel_rfl

end Go.Proofs.YtleagenhnchjdaaGreatDoor

set_option linter.unusedVariables false
set_option linter.unusedSimpArgs false
namespace Go.Proofs.YtleagenhnchjdaaGreatDoor
open Go.RowKit

theorem own_set {w : World} {base : Nat} {e : TypeId} {size : Nat} {v : Value} {n : Nat} {xs : List Value} (h : w.ownsRow base e size v n xs) {p : Addr} {u : Value} (hp : v.ownBlock ≠ some p.block) : (w.setCell p u).ownsRow base e size v n xs :=
  own_if h (KeepsIf.set (p := fun b => v.ownBlock = some b) (fun b e e' => hp (by rw [e']; exact e))) (fun b e => e)
theorem ne_off {B i j : Nat} (h : i ≠ j) : (⟨B, i, none⟩ : Addr) ≠ ⟨B, j, none⟩ := by intro e; injection e with _ e2 _; exact h e2
theorem ne_blk {B C i j : Nat} (h : B ≠ C) : (⟨B, i, none⟩ : Addr) ≠ ⟨C, j, none⟩ := by intro e; injection e with e1 _ _; exact h e1
theorem box_th {w : World} {B : Nat} {vs : Array Value} {ty : TypeId} (h : w.heap[B]? = some (.cells vs ty (0, 0))) : w.there B 0 vs.size := fun j hj => by
  refine ⟨?_, ?_⟩
  · simp [World.cell?, h, hj]
  · simp [World.frozen?, h]
/-- A place of n cells that can be written. -/
structure Room (w : World) (F n : Nat) : Prop where
  lt : F < w.heap.size
  th : w.there F 0 n
theorem Room.keeps {w w' : World} {F n S : Nat} (h : Room w F n) (hk : Keeps S w w') (hn : F ≠ S) : Room w' F n :=
  ⟨Nat.lt_of_lt_of_le h.lt hk.size, fun j hj => by
    obtain ⟨h1, h2⟩ := h.th j hj
    exact ⟨by rw [hk.cell (p := ⟨F, 0 + j, none⟩) h.lt hn]; exact h1, by rw [hk.frozen (p := ⟨F, 0 + j, none⟩) h.lt hn]; exact h2⟩⟩
theorem Room.below {w w' : World} {F n : Nat} (h : Room w F n) (hb : Below w.heap.size w w') : Room w' F n :=
  ⟨Nat.lt_of_lt_of_le h.lt hb.size, fun j hj => by
    obtain ⟨h1, h2⟩ := h.th j hj
    exact ⟨by rw [hb.cell (p := ⟨F, 0 + j, none⟩) h.lt]; exact h1, by rw [hb.frozen (p := ⟨F, 0 + j, none⟩) h.lt]; exact h2⟩⟩
theorem Room.grown {w w' : World} {F n : Nat} {row : Option Nat} (h : Room w F n) (hg : w.grownBy w' row) (hn : row ≠ some F) : Room w' F n :=
  ⟨Nat.lt_of_lt_of_le h.lt hg.size, fun j hj => by
    obtain ⟨h1, h2⟩ := h.th j hj
    have hb := hg.block F h.lt (fun e => hn e.symm)
    exact ⟨by rw [World.cell?_of_block (a := ⟨F, 0 + j, none⟩) hb]; exact h1, by rw [World.frozen?_of_block (a := ⟨F, 0 + j, none⟩) hb]; exact h2⟩⟩
theorem Room.set {w : World} {F n : Nat} (h : Room w F n) (B o : Nat) (u : Value) : Room (w.setCell ⟨B, o, none⟩ u) F n :=
  ⟨by simpa using h.lt, World.there_setCells h.th B o [u]⟩
theorem below_setCells {S F : Nat} (hS : S ≤ F) : ∀ (vs : List Value) (w : World) (k : Nat), Below S w (w.setCells F k vs)
  | [], w, k => Below.refl _ _
  | v :: vs, w, k => ((Below.refl S w).setCell (p := ⟨F, k, none⟩) hS v).trans (below_setCells hS vs (w.setCell ⟨F, k, none⟩ v) (k + 1))
theorem keeps_setCells {S F : Nat} {a : World} (hF : a.heap.size ≤ F) : ∀ (vs : List Value) (w : World) (k : Nat), Keeps S a w → Keeps S a (w.setCells F k vs)
  | [], w, k, h => h
  | v :: vs, w, k, h => keeps_setCells hF vs (w.setCell ⟨F, k, none⟩ v) (k + 1) (h.setCell_new hF v)
/-- Names in a row. -/
structure Names (w : World) (A n : Nat) (names : List (List UInt8)) : Prop where
  lt : A < w.heap.size
  at_ : ∀ i, i < n → w.cell? ⟨A, i, none⟩ = some (.string ⟨(names.getD i []).toArray⟩)
theorem Names.keeps {w w' : World} {A n S : Nat} {names : List (List UInt8)} (h : Names w A n names) (hk : Keeps S w w') (hn : A ≠ S) : Names w' A n names :=
  ⟨Nat.lt_of_lt_of_le h.lt hk.size, fun i hi => (hk.cell (p := ⟨A, i, none⟩) h.lt hn).trans (h.at_ i hi)⟩
theorem Names.grown {w w' : World} {A n : Nat} {names : List (List UInt8)} {row : Option Nat} (h : Names w A n names) (hg : w.grownBy w' row) (hn : row ≠ some A) : Names w' A n names :=
  ⟨Nat.lt_of_lt_of_le h.lt hg.size, fun i hi => (World.cell?_of_block (a := ⟨A, i, none⟩) (hg.block A h.lt (fun e => hn e.symm))).trans (h.at_ i hi)⟩
theorem Names.set {w : World} {A n : Nat} {names : List (List UInt8)} (h : Names w A n names) {B o : Nat} (hn : B ≠ A) (u : Value) : Names (w.setCell ⟨B, o, none⟩ u) A n names :=
  ⟨by simpa using h.lt, fun i hi => (World.cell?_setCell_other _ _ _ _ (ne_blk hn)).trans (h.at_ i hi)⟩
theorem names_new (W : World) (names : List (List UInt8)) (cs : Array Value) (hcs : cs.toList = names.map fun s => Value.string ⟨s.toArray⟩) (n : Nat) (hn : n = names.length) : Names (W.alloc (.cells cs 9)) W.heap.size n names := by
  subst hn
  have hcs' : cs = (names.map fun s => Value.string ⟨s.toArray⟩).toArray := by rw [← hcs]
  subst hcs'
  exact ⟨by simp, fun i hi => (new_cell W _ 9 (0, 0) i).trans (by simp [hi])⟩
theorem wp_skip {P : Program} {o : Oper} {a : Act} {w w' : World} {K : Act → World → Prop} {Q : Exit → Act → World → Prop} (h : (execOp a.eval o).run P w = .ok .skip w') (hK : K (a.put o.dst undef) w') : o.wp P a w K Q := by
  unfold Oper.wp
  rw [h]
  exact hK
theorem wp_append_own_at {P : Program} {w : World} {o : Oper} {a : Act} {K : Act → World → Prop} {Q : Exit → Act → World → Prop} (s x : Operand) (t : TypeId)
    (ho : o.op = .call { callee := .builtin .append, args := #[s, x], argTypes := #[t, t] })
    (base : Nat) (e : TypeId) (i : TypeInfo) (z : Value) (size bytes : Nat) (ht : P.underlying t = some (.slice e)) (hi : P.info? e = some i) (hz : i.zero = some z)
    (hsize : i.size = size) (hby : i.bytes = bytes) (hzs : z.cells.size = size) (hsz : 0 < size)
    (v : Value) (n : Nat) (xs : List Value) (hs : a.eval s = v) (hown : w.ownsRow base e size v n xs)
    (ad : Addr) (m c : Nat) (news : List Value) (hx : a.eval x = .slice (some ad) m c) (hl : news.length = m * size) (hnews : ∀ j u, news[j]? = some u → w.cell? (ad.add j) = some u) (h1 : ∀ u ∈ news, u.oneCell' = true)
    (h63 : n + m ≤ maxLen) (hbytes : (n + m) * bytes ≤ 140737488355328) (hbase : base ≤ w.heap.size)
    (h : ∀ v' w', w'.ownsRow base e size v' (n + m) (xs ++ news) → w.grownBy w' v.ownBlock → (v'.ownBlock = v.ownBlock ∨ v'.ownBlock = some w.heap.size) → K (a.put o.dst v') w') : o.wp P a w K Q := by
  obtain ⟨v', w', hr, k1, k2, _, k3⟩ := run_append_own_at (P := P) w base t o.type e i z size bytes ht hi hz hsize hby hzs hsz v n xs hown ad m c news hl hnews h1 h63 hbytes hbase
  unfold Oper.wp execOp
  simp only [ho, resolve, invoke, builtin, Sem.run_bind, Sem.run_pure, Result.andThen_ok, List.map_toArray, List.map_cons, List.map_nil, hs, hx, hr]
  exact h v' w' k1 k2 k3
/-- A deck in a box of its own. -/
structure DBox (w : World) (D : Nat) (f s l st : Int) (v : Value) : Prop where
  lt : D < w.heap.size
  c0 : w.cell? ⟨D, 0, none⟩ = some (.int .i64 f)
  c1 : w.cell? ⟨D, 1, none⟩ = some (.int .i64 s)
  c2 : w.cell? ⟨D, 2, none⟩ = some (.int .i64 l)
  c3 : w.cell? ⟨D, 3, none⟩ = some (.int .i64 st)
  c4 : w.cell? ⟨D, 4, none⟩ = some v
  fr : ∀ j, w.frozen? ⟨D, j, none⟩ = false
theorem DBox.keeps {w w' : World} {D S : Nat} {f s l st : Int} {v : Value} (h : DBox w D f s l st v) (hk : Keeps S w w') (hn : D ≠ S) : DBox w' D f s l st v :=
  ⟨Nat.lt_of_lt_of_le h.lt hk.size, (hk.cell (p := ⟨D, 0, none⟩) h.lt hn).trans h.c0, (hk.cell (p := ⟨D, 1, none⟩) h.lt hn).trans h.c1, (hk.cell (p := ⟨D, 2, none⟩) h.lt hn).trans h.c2, (hk.cell (p := ⟨D, 3, none⟩) h.lt hn).trans h.c3, (hk.cell (p := ⟨D, 4, none⟩) h.lt hn).trans h.c4, fun j => (hk.frozen (p := ⟨D, j, none⟩) h.lt hn).trans (h.fr j)⟩
theorem DBox.grown {w w' : World} {D : Nat} {f s l st : Int} {v : Value} {row : Option Nat} (h : DBox w D f s l st v) (hg : w.grownBy w' row) (hn : row ≠ some D) : DBox w' D f s l st v := by
  have hb := hg.block D h.lt (fun e => hn e.symm)
  exact ⟨Nat.lt_of_lt_of_le h.lt hg.size, (World.cell?_of_block (a := ⟨D, 0, none⟩) hb).trans h.c0, (World.cell?_of_block (a := ⟨D, 1, none⟩) hb).trans h.c1, (World.cell?_of_block (a := ⟨D, 2, none⟩) hb).trans h.c2, (World.cell?_of_block (a := ⟨D, 3, none⟩) hb).trans h.c3, (World.cell?_of_block (a := ⟨D, 4, none⟩) hb).trans h.c4, fun j => (World.frozen?_of_block (a := ⟨D, j, none⟩) hb).trans (h.fr j)⟩
theorem DBox.far {w : World} {D : Nat} {f s l st : Int} {v : Value} (h : DBox w D f s l st v) {B o : Nat} (hn : B ≠ D) (u : Value) : DBox (w.setCell ⟨B, o, none⟩ u) D f s l st v :=
  ⟨by simpa using h.lt, (World.cell?_setCell_other _ _ _ _ (ne_blk hn)).trans h.c0, (World.cell?_setCell_other _ _ _ _ (ne_blk hn)).trans h.c1, (World.cell?_setCell_other _ _ _ _ (ne_blk hn)).trans h.c2, (World.cell?_setCell_other _ _ _ _ (ne_blk hn)).trans h.c3, (World.cell?_setCell_other _ _ _ _ (ne_blk hn)).trans h.c4, fun j => (World.frozen?_setCell _ _ _ _).trans (h.fr j)⟩
theorem DBox.s0 {w : World} {D : Nat} {f s l st : Int} {v : Value} (h : DBox w D f s l st v) (z : Int) : DBox (w.setCell ⟨D, 0, none⟩ (.int .i64 z)) D z s l st v :=
  ⟨by simpa using h.lt, World.cell?_setCell_same _ _ _ h.c0, (World.cell?_setCell_other _ _ _ _ (ne_off (by decide))).trans h.c1, (World.cell?_setCell_other _ _ _ _ (ne_off (by decide))).trans h.c2, (World.cell?_setCell_other _ _ _ _ (ne_off (by decide))).trans h.c3, (World.cell?_setCell_other _ _ _ _ (ne_off (by decide))).trans h.c4, fun j => (World.frozen?_setCell _ _ _ _).trans (h.fr j)⟩
theorem DBox.s1 {w : World} {D : Nat} {f s l st : Int} {v : Value} (h : DBox w D f s l st v) (z : Int) : DBox (w.setCell ⟨D, 1, none⟩ (.int .i64 z)) D f z l st v :=
  ⟨by simpa using h.lt, (World.cell?_setCell_other _ _ _ _ (ne_off (by decide))).trans h.c0, World.cell?_setCell_same _ _ _ h.c1, (World.cell?_setCell_other _ _ _ _ (ne_off (by decide))).trans h.c2, (World.cell?_setCell_other _ _ _ _ (ne_off (by decide))).trans h.c3, (World.cell?_setCell_other _ _ _ _ (ne_off (by decide))).trans h.c4, fun j => (World.frozen?_setCell _ _ _ _).trans (h.fr j)⟩
theorem DBox.s2 {w : World} {D : Nat} {f s l st : Int} {v : Value} (h : DBox w D f s l st v) (z : Int) : DBox (w.setCell ⟨D, 2, none⟩ (.int .i64 z)) D f s z st v :=
  ⟨by simpa using h.lt, (World.cell?_setCell_other _ _ _ _ (ne_off (by decide))).trans h.c0, (World.cell?_setCell_other _ _ _ _ (ne_off (by decide))).trans h.c1, World.cell?_setCell_same _ _ _ h.c2, (World.cell?_setCell_other _ _ _ _ (ne_off (by decide))).trans h.c3, (World.cell?_setCell_other _ _ _ _ (ne_off (by decide))).trans h.c4, fun j => (World.frozen?_setCell _ _ _ _).trans (h.fr j)⟩
theorem DBox.s3 {w : World} {D : Nat} {f s l st : Int} {v : Value} (h : DBox w D f s l st v) (z : Int) : DBox (w.setCell ⟨D, 3, none⟩ (.int .i64 z)) D f s l z v :=
  ⟨by simpa using h.lt, (World.cell?_setCell_other _ _ _ _ (ne_off (by decide))).trans h.c0, (World.cell?_setCell_other _ _ _ _ (ne_off (by decide))).trans h.c1, (World.cell?_setCell_other _ _ _ _ (ne_off (by decide))).trans h.c2, World.cell?_setCell_same _ _ _ h.c3, (World.cell?_setCell_other _ _ _ _ (ne_off (by decide))).trans h.c4, fun j => (World.frozen?_setCell _ _ _ _).trans (h.fr j)⟩
theorem DBox.s4 {w : World} {D : Nat} {f s l st : Int} {v : Value} (h : DBox w D f s l st v) (u : Value) : DBox (w.setCell ⟨D, 4, none⟩ u) D f s l st u :=
  ⟨by simpa using h.lt, (World.cell?_setCell_other _ _ _ _ (ne_off (by decide))).trans h.c0, (World.cell?_setCell_other _ _ _ _ (ne_off (by decide))).trans h.c1, (World.cell?_setCell_other _ _ _ _ (ne_off (by decide))).trans h.c2, (World.cell?_setCell_other _ _ _ _ (ne_off (by decide))).trans h.c3, World.cell?_setCell_same _ _ _ h.c4, fun j => (World.frozen?_setCell _ _ _ _).trans (h.fr j)⟩
theorem rcells_snoc (l : List Rate) (r : Rate) : ((l ++ [r]).map Rate.cells).flatten = (l.map Rate.cells).flatten ++ Rate.cells r := by simp
def RatesIn (l : List Rate) : Prop := ∀ r ∈ l, r.p.length ≤ 100 ∧ -2000000000000 ≤ r.price ∧ r.price ≤ 2000000000000
theorem rates_snoc {l : List Rate} {r : Rate} (h : RatesIn l) (h1 : r.p.length ≤ 100) (h2 : -2000000000000 ≤ r.price) (h3 : r.price ≤ 2000000000000) : RatesIn (l ++ [r]) := fun x hx => by
  rcases List.mem_append.1 hx with hx | hx
  · exact h x hx
  · rw [List.mem_singleton.1 hx]; exact ⟨h1, h2, h3⟩
theorem bs_i4 (e : Operand → Value) (he : ∀ v, e (.const v) = v) (o : Oper) (w : World) (z0 z1 z2 z3 : Int) (ho : o.op = .buildSlice 22 4 #[(0, .const (.int .i64 z0)), (1, .const (.int .i64 z1)), (2, .const (.int .i64 z2)), (3, .const (.int .i64 z3))]) :
   (execOp e o).run Tryz.prog w = .ok (.value (.slice (some ⟨w.heap.size, 0, none⟩) 4 4)) (w.alloc (.cells #[.int .i64 z0, .int .i64 z1, .int .i64 z2, .int .i64 z3] 3)) := by
  unfold execOp
  rw [ho]
  simp only [List.map_toArray, List.map_cons, List.map_nil, he]
  kernel_rfl
theorem bs_i3 (e : Operand → Value) (he : ∀ v, e (.const v) = v) (o : Oper) (w : World) (z0 z1 z2 : Int) (ho : o.op = .buildSlice 22 3 #[(0, .const (.int .i64 z0)), (1, .const (.int .i64 z1)), (2, .const (.int .i64 z2))]) :
   (execOp e o).run Tryz.prog w = .ok (.value (.slice (some ⟨w.heap.size, 0, none⟩) 3 3)) (w.alloc (.cells #[.int .i64 z0, .int .i64 z1, .int .i64 z2] 3)) := by
  unfold execOp
  rw [ho]
  simp only [List.map_toArray, List.map_cons, List.map_nil, he]
  kernel_rfl
theorem bs_i5 (e : Operand → Value) (he : ∀ v, e (.const v) = v) (o : Oper) (w : World) (z0 z1 z2 z3 z4 : Int) (ho : o.op = .buildSlice 22 5 #[(0, .const (.int .i64 z0)), (1, .const (.int .i64 z1)), (2, .const (.int .i64 z2)), (3, .const (.int .i64 z3)), (4, .const (.int .i64 z4))]) :
   (execOp e o).run Tryz.prog w = .ok (.value (.slice (some ⟨w.heap.size, 0, none⟩) 5 5)) (w.alloc (.cells #[.int .i64 z0, .int .i64 z1, .int .i64 z2, .int .i64 z3, .int .i64 z4] 3)) := by
  unfold execOp
  rw [ho]
  simp only [List.map_toArray, List.map_cons, List.map_nil, he]
  kernel_rfl
theorem bs_i2 (e : Operand → Value) (he : ∀ v, e (.const v) = v) (o : Oper) (w : World) (z0 z1 : Int) (ho : o.op = .buildSlice 22 2 #[(0, .const (.int .i64 z0)), (1, .const (.int .i64 z1))]) :
   (execOp e o).run Tryz.prog w = .ok (.value (.slice (some ⟨w.heap.size, 0, none⟩) 2 2)) (w.alloc (.cells #[.int .i64 z0, .int .i64 z1] 3)) := by
  unfold execOp
  rw [ho]
  simp only [List.map_toArray, List.map_cons, List.map_nil, he]
  kernel_rfl
theorem bs_s13 (e : Operand → Value) (he : ∀ v, e (.const v) = v) (o : Oper) (w : World)  (p0 p1 p2 p3 p4 p5 p6 p7 p8 p9 p10 p11 p12 : ByteArray) (ho : o.op = .buildSlice 27 13 #[(0, .const (.string p0)), (1, .const (.string p1)), (2, .const (.string p2)), (3, .const (.string p3)), (4, .const (.string p4)), (5, .const (.string p5)), (6, .const (.string p6)), (7, .const (.string p7)), (8, .const (.string p8)), (9, .const (.string p9)), (10, .const (.string p10)), (11, .const (.string p11)), (12, .const (.string p12))])  :
   (execOp e o).run Tryz.prog w = .ok (.value (.slice (some ⟨w.heap.size, 0, none⟩) 13 13)) (w.alloc (.cells #[.string p0, .string p1, .string p2, .string p3, .string p4, .string p5, .string p6, .string p7, .string p8, .string p9, .string p10, .string p11, .string p12] 9)) := by
  unfold execOp
  rw [ho]
  simp only [List.map_toArray, List.map_cons, List.map_nil, he]
  kernel_rfl
theorem bs_s12 (e : Operand → Value) (he : ∀ v, e (.const v) = v) (o : Oper) (w : World)  (p0 p1 p2 p3 p4 p5 p6 p7 p8 p9 p10 p11 : ByteArray) (ho : o.op = .buildSlice 27 12 #[(0, .const (.string p0)), (1, .const (.string p1)), (2, .const (.string p2)), (3, .const (.string p3)), (4, .const (.string p4)), (5, .const (.string p5)), (6, .const (.string p6)), (7, .const (.string p7)), (8, .const (.string p8)), (9, .const (.string p9)), (10, .const (.string p10)), (11, .const (.string p11))])  :
   (execOp e o).run Tryz.prog w = .ok (.value (.slice (some ⟨w.heap.size, 0, none⟩) 12 12)) (w.alloc (.cells #[.string p0, .string p1, .string p2, .string p3, .string p4, .string p5, .string p6, .string p7, .string p8, .string p9, .string p10, .string p11] 9)) := by
  unfold execOp
  rw [ho]
  simp only [List.map_toArray, List.map_cons, List.map_nil, he]
  kernel_rfl
theorem bs_s5r (e : Operand → Value) (he : ∀ v, e (.const v) = v) (o : Oper) (w : World) (i4 : Nat) (p0 p1 p2 p3 p4 : ByteArray) (ho : o.op = .buildSlice 27 5 #[(0, .const (.string p0)), (1, .const (.string p1)), (2, .const (.string p2)), (3, .const (.string p3)), (4, .tmp i4)]) (h4 : e (.tmp i4) = .string p4) :
   (execOp e o).run Tryz.prog w = .ok (.value (.slice (some ⟨w.heap.size, 0, none⟩) 5 5)) (w.alloc (.cells #[.string p0, .string p1, .string p2, .string p3, .string p4] 9)) := by
  unfold execOp
  rw [ho]
  simp only [List.map_toArray, List.map_cons, List.map_nil, he, h4]
  kernel_rfl
end Go.Proofs.YtleagenhnchjdaaGreatDoor

set_option linter.unusedVariables false
set_option linter.unusedSimpArgs false
namespace Go.Proofs.YtleagenhnchjdaaGreatDoor
open Go.RowKit

theorem flat_set {α : Type} (f : α → List Value) (k : Nat) (hk : ∀ x, (f x).length = k) : ∀ (l : List α) (r j : Nat) (d y : α) (v : Value), r < l.length → j < k → f y = (f (l.getD r d)).set j v → ((l.set r y).map f).flatten = ((l.map f).flatten).set (r * k + j) v
  | c :: cs, 0, j, d, y, v, _, hj, hy => by
    have hy' : f y = (f c).set j v := hy
    simp only [List.set_cons_zero, List.map_cons, List.flatten_cons, Nat.zero_mul, Nat.zero_add]
    rw [hy', List.set_append_left _ _ (by rw [hk]; exact hj)]
  | c :: cs, r + 1, j, d, y, v, hr, hj, hy => by
    have ih := flat_set f k hk cs r j d y v (by simpa using hr) hj (by simpa using hy)
    have e : (r + 1) * k = r * k + k := Nat.succ_mul r k
    simp only [List.set_cons_succ, List.map_cons, List.flatten_cons]
    rw [List.set_append_right _ _ (by rw [hk]; omega), hk, show (r + 1) * k + j - k = r * k + j by omega, ih]
/-- Field j of element r is written. -/
theorem own_put1 {α : Type} (f : α → List Value) {k : Nat} (hk : ∀ x, (f x).length = k) {w : World} {base g n cap : Nat} {e : TypeId} {l : List α} (h : w.ownsRow base e k (.slice (some ⟨g, 0, none⟩) n cap) n ((l.map f).flatten)) (r j : Nat) (d y : α) (v : Value) (hr : r < l.length) (hj : j < k) (hy : f y = (f (l.getD r d)).set j v) :
    (w.setCell ⟨g, r * k + j, none⟩ v).ownsRow base e k (.slice (some ⟨g, 0, none⟩) n cap) n (((l.set r y).map f).flatten) := by
  rw [flat_set f k hk l r j d y v hr hj hy]
  exact (h.stored _ _).1
theorem flat_atF {α : Type} (f : α → List Value) (k : Nat) (hk : ∀ x, (f x).length = k) : ∀ (l : List α) (r j : Nat) (d : α), r < l.length → j < k → ((l.map f).flatten)[r * k + j]? = (f (l.getD r d))[j]?
  | c :: cs, 0, j, d, _, hj => by
    simp only [List.map_cons, List.flatten_cons, Nat.zero_mul, Nat.zero_add]
    rw [List.getElem?_append_left (by rw [hk]; exact hj)]
    rfl
  | c :: cs, r + 1, j, d, hr, hj => by
    have ih := flat_atF f k hk cs r j d (by simpa using hr) hj
    have e : (r + 1) * k = r * k + k := Nat.succ_mul r k
    simp only [List.map_cons, List.flatten_cons]
    rw [List.getElem?_append_right (by rw [hk]; omega), hk, show (r + 1) * k + j - k = r * k + j by omega, ih]
    simp
theorem flat_length {α : Type} (f : α → List Value) (k : Nat) (hk : ∀ x, (f x).length = k) (l : List α) : ((l.map f).flatten).length = l.length * k := by
  induction l with
  | nil => simp
  | cons c cs ih => simp only [List.map_cons, List.flatten_cons, List.length_append, List.length_cons, ih, hk, Nat.succ_mul]; omega
/-- Field j of element r. -/
theorem own_field {α : Type} (f : α → List Value) {k : Nat} (hk : ∀ x, (f x).length = k) {w : World} {base g n cap : Nat} {e : TypeId} {l : List α} (h : w.ownsRow base e k (.slice (some ⟨g, 0, none⟩) n cap) n ((l.map f).flatten)) (r j : Nat) (d : α) {v : Value} (hr : r < l.length) (hj : j < k) (hv : (f (l.getD r d))[j]? = some v) : w.cell? ⟨g, r * k + j, none⟩ = some v := by
  have hlt : r * k + j < ((l.map f).flatten).length := by
    rw [flat_length f k hk]
    have : (r + 1) * k ≤ l.length * k := Nat.mul_le_mul_right k hr
    rw [Nat.succ_mul] at this
    omega
  have hl := h.1
  have := h.cellAt (r * k + j) (by omega)
  rw [flat_atF f k hk l r j d hr hj, hv] at this
  exact this
theorem own_soft1 {w : World} {base g n c : Nat} {ty : TypeId} {sz : Nat} {xs : List Value} (h : w.ownsRow base ty sz (.slice (some ⟨g, 0, none⟩) n c) n xs) (j : Nat) : w.frozen? ⟨g, j, none⟩ = false := h.frozenAt j
theorem own_pos {w : World} {base : Nat} {e : TypeId} {size : Nat} {a : Option Addr} {m c n : Nat} {xs : List Value} (h : w.ownsRow base e size (.slice a m c) n xs) (hn : 0 < n) : ∃ g, a = some ⟨g, 0, none⟩ ∧ base ≤ g ∧ g < w.heap.size := by
  rcases h.2 with ⟨_, h0⟩ | ⟨g, cap, cur, e1, h2, h3, _⟩
  · omega
  · injection e1 with e1 e2 e3
    exact ⟨g, e1, h2, (Array.getElem?_eq_some_iff.1 h3).1⟩
end Go.Proofs.YtleagenhnchjdaaGreatDoor

set_option linter.unusedVariables false
set_option linter.unusedSimpArgs false
namespace Go.Proofs.YtleagenhnchjdaaGreatDoor
open Go.RowKit

theorem own_above {base e size g n cap : Nat} : ∀ (L : List Value) (w : World) (xs : List Value) (o m : Nat), w.ownsRow base e size (.slice (some ⟨g, 0, none⟩) n cap) n xs → m ≤ o → ∃ ys, (w.setCells g o L).ownsRow base e size (.slice (some ⟨g, 0, none⟩) n cap) n ys ∧ ys.take m = xs.take m
  | [], w, xs, o, m, h, _ => ⟨xs, h, rfl⟩
  | v :: L, w, xs, o, m, h, hm => by
    obtain ⟨ys, h1, h2⟩ := own_above L (w.setCell ⟨g, o, none⟩ v) (xs.set o v) (o + 1) m (h.stored o v).1 (by omega)
    exact ⟨ys, h1, by rw [h2, List.take_set_of_le hm]⟩
theorem own_cutK {w : World} {base B cap n m k : Nat} {e : TypeId} {xs : List Value} (h : w.ownsRow base e k (.slice (some ⟨B, 0, none⟩) n cap) n xs) (hm : m ≤ n) : w.ownsRow base e k (.slice (some ⟨B, 0, none⟩) m cap) m (xs.take (m * k)) := by
  have h1 := h.1
  have hk : m * k ≤ n * k := Nat.mul_le_mul_right k hm
  rcases h.2 with ⟨h0, _⟩ | ⟨g, cap', cur, h0, hb, hg, hn, hc, hs, ht⟩
  · cases h0
  · injection h0 with e1 _ e3
    injection e1 with e1
    injection e1 with e1
    subst e1 e3
    refine ⟨by rw [List.length_take]; omega, .inr ⟨B, cap, cur, rfl, hb, hg, by omega, hc, hs, ?_⟩⟩
    rw [← ht, List.take_take, Nat.min_eq_left hk]
theorem flat_take {α : Type} (f : α → List Value) (k : Nat) (hk : ∀ x, (f x).length = k) : ∀ (l : List α) (m : Nat), m ≤ l.length → ((l.map f).flatten).take (m * k) = ((l.take m).map f).flatten
  | l, 0, _ => by simp
  | [], m + 1, h => by simp at h
  | x :: l, m + 1, h => by
    rw [List.map_cons, List.flatten_cons, List.take_succ_cons, List.map_cons, List.flatten_cons]
    rw [show (m + 1) * k = (f x).length + m * k by rw [hk, Nat.add_mul]; omega, List.take_append]
    rw [List.take_of_length_le (by omega), Nat.add_sub_cancel_left, flat_take f k hk l m (by simpa using h)]
theorem run_clear_any (w : World) (t e : TypeId) (z : Value) (ht : Tryz.prog.underlying t = some (.slice e)) (hv : ∀ w, (zeroValue e).run Tryz.prog w = .ok z w) (hz : 0 < z.cells.size) (h1 : ∀ i : Nat, Value.oneCell' (z.cells[i]!) = true) (b o n c : Nat) (hn : 0 < n)
    (hc : ∀ j, j < n * z.cells.size → (w.cell? ⟨b, o + j, none⟩).isSome = true) (hf : ∀ j, j < n * z.cells.size → w.frozen? ⟨b, o + j, none⟩ = false) :
    ∃ L, ∀ ty : TypeId, (Builtin.clear_ #[t] ty #[.slice (some ⟨b, o, none⟩) n c]).run Tryz.prog w = .ok (.tuple #[]) (w.setCells b o L) := by
  refine ⟨(Builtin.zeroCells z.cells n).toList, fun ty => ?_⟩
  have hl : (Builtin.zeroCells z.cells n).size = n * z.cells.size := by simp [Builtin.zeroCells]
  have hst := run_storeCells_cells (P := Tryz.prog) b o (Builtin.zeroCells z.cells n).toList 0 w (by rw [Array.length_toList, hl]; simpa using hc) (by rw [Array.length_toList, hl]; simpa using hf) (by
    intro v hv'
    obtain ⟨i, hi, rfl⟩ := List.getElem_of_mem hv'
    simp only [Builtin.zeroCells, Array.getElem_toList, Array.getElem_map]
    exact h1 _)
  simp only [Nat.add_zero] at hst
  obtain ⟨m, rfl⟩ : ∃ m, n = m + 1 := ⟨n - 1, by omega⟩
  simp [Builtin.clear_, run_underlying ht, hv, hst]
theorem wpList_doneT {P : Program} {ops : Array Oper} {rest : List Oper} {o : Oper} {a : Act} {w w' : World} {Q : Exit → Act → World → Prop} (hg : o.guard = none) (h : (execOp a.eval o).run P w = .ok .skip w') (hK : wpList P ops Q rest (a.put o.dst undef) w') : wpList P ops Q (o :: rest) a w :=
  wpList_plain hg fun K hK' => wp_skip h (hK' _ _ hK)
end Go.Proofs.YtleagenhnchjdaaGreatDoor

set_option linter.unusedVariables false
set_option linter.unusedSimpArgs false
namespace Go.Proofs.YtleagenhnchjdaaGreatDoor
open Go.RowKit Go.Sort Go.Lib

theorem flatK_list {α : Type} [Inhabited α] (enc : α → List Value) {k : Nat} (hk : ∀ x, (enc x).length = k) (h0 : 0 < k) (l : List α) : (flatK enc k l.toArray).toList = (l.map enc).flatten := by
  have hL := flat_length enc k hk l
  apply List.ext_getElem?
  intro t
  by_cases ht : t < l.length * k
  · have hd : t / k < l.length := (Nat.div_lt_iff_lt_mul h0).2 ht
    have hm : t % k < k := Nat.mod_lt _ h0
    have h1 := flat_atF enc k hk l (t / k) (t % k) default hd hm
    rw [show t / k * k + t % k = t from Nat.div_add_mod' t k] at h1
    rw [h1, Array.getElem?_toList]
    have hs : t < (flatK enc k l.toArray).size := by simpa using ht
    have h2 := get_flatK enc k l.toArray t (by simpa using ht)
    rw [Array.getElem?_eq_getElem hs]
    rw [getElem!_pos _ t hs] at h2
    rw [h2]
    have e1 : l.toArray[t / k]! = l.getD (t / k) default := by simp [List.getD_eq_getElem?_getD, hd]
    rw [e1]
    have hm2 : t % k < (enc (l.getD (t / k) default)).length := by rw [hk]; exact hm
    rw [List.getElem?_eq_getElem hm2]
    congr 1
    exact getElem!_pos (enc (l.getD (t / k) default)) (t % k) hm2
  · rw [List.getElem?_eq_none (show (flatK enc k l.toArray).toList.length ≤ t by rw [Array.length_toList, size_flatK, List.size_toArray]; omega), List.getElem?_eq_none (by rw [hL]; omega)]
theorem holdsK_own {α : Type} [Inhabited α] (enc : α → List Value) {k : Nat} (hk : ∀ x, (enc x).length = k) (h0 : 0 < k) {w : World} {base g n cap : Nat} {e : TypeId} {l : List α} (h : w.ownsRow base e k (.slice (some ⟨g, 0, none⟩) n cap) n ((l.map enc).flatten)) : HoldsK enc k w g 0 l.toArray := fun t ht => by
  have hL := flat_length enc k hk l
  have hn := h.1
  have ht' : t < l.length * k := by simpa using ht
  refine ⟨?_, h.frozenAt _⟩
  rw [Nat.zero_add, h.cellAt t (by omega), ← flatK_list enc hk h0 l, Array.getElem?_toList, Array.getElem?_eq_getElem ht, getElem!_pos _ t ht]
  rfl
theorem own_putK {α : Type} [Inhabited α] (enc : α → List Value) {k : Nat} (hk : ∀ x, (enc x).length = k) (h0 : 0 < k) {w : World} {base g n cap : Nat} {e : TypeId} {l ys : List α} (h : w.ownsRow base e k (.slice (some ⟨g, 0, none⟩) n cap) n ((l.map enc).flatten)) (hy : ys.length = l.length) (q : Nat) (os : Array Obj) :
    (sortWorldK enc k w g 0 q ys.toArray os).ownsRow base e k (.slice (some ⟨g, 0, none⟩) n cap) n ((ys.map enc).flatten) := by
  have hL := flat_length enc k hk l
  have hY := flat_length enc k hk ys
  have hn := h.1
  rcases h.2 with ⟨e0, _⟩ | ⟨g', cap', cur, e0, hb, hg, hcn, hm, hs, ht⟩
  · cases e0
  · injection e0 with e1 _ e3
    injection e1 with e1
    injection e1 with e1
    subst e1; subst e3
    have hlt : g < w.heap.size := (Array.getElem?_eq_some_iff.1 hg).1
    have hcur : n * k ≤ cur.size := by rw [hs]; exact Nat.mul_le_mul_right k hcn
    have hF : (flatK enc k ys.toArray).size = n * k := by rw [size_flatK, List.size_toArray, hy]; omega
    refine ⟨by rw [hY, hy]; omega, .inr ⟨g, cap, putCells id 0 (flatK enc k ys.toArray) cur, rfl, hb, ?_, hcn, hm, by simpa [putCells] using hs, ?_⟩⟩
    · unfold sortWorldK grow putRowK putRow mapBlock Sort.ahead
      rw [Array.getElem?_append_left (by simpa using hlt)]
      simp [Array.getElem?_modify, hg, onCells]
    · rw [← flatK_list enc hk h0 ys]
      apply List.ext_getElem?
      intro j
      rw [List.getElem?_take]
      by_cases hj : j < n * k
      · have hjc : j < cur.size := by omega
        have hjF : j < (flatK enc k ys.toArray).size := by omega
        rw [if_pos hj, Array.getElem?_toList, Array.getElem?_toList]
        simp only [putCells, Array.getElem?_mapIdx, Array.getElem?_eq_getElem hjc, Option.map_some]
        rw [if_pos ⟨Nat.zero_le _, by omega⟩, Array.getElem?_eq_getElem hjF]
        simp only [Nat.sub_zero, id]
        congr 1
        exact getElem!_pos _ j hjF
      · rw [if_neg hj, List.getElem?_eq_none (by rw [Array.length_toList]; omega)]
theorem below_sortK {α : Type} [Inhabited α] (enc : α → List Value) (k : Nat) {w0 w : World} {B g q : Nat} {d : Array α} (os : Array Obj) (h : Below B w0 w) (hg : B ≤ g) (hB : B ≤ w.heap.size) : Below B w0 (sortWorldK enc k w g 0 q d os) := by
  refine ⟨h.os, h.tape, h.output, ?_, fun i hi => ?_⟩
  · have := h.size
    unfold sortWorldK grow putRowK putRow mapBlock Sort.ahead
    simp
    omega
  · rw [← h.block i hi]
    unfold sortWorldK grow putRowK putRow mapBlock Sort.ahead
    rw [Array.getElem?_append_left (by simp; omega)]
    simp [Array.getElem?_modify, show g ≠ i by omega]
theorem insInnerK_size {α : Type} [Inhabited α] (lt : α → α → Bool) (a : Nat) : ∀ (j : Nat) (d : Array α), (insInner lt a j d).size = d.size
  | 0, d => by unfold insInner; rfl
  | j + 1, d => by
    unfold insInner
    split
    · rw [insInnerK_size lt a j, swp_size]
    · rfl
theorem insOuterK_size {α : Type} [Inhabited α] (lt : α → α → Bool) (a b : Nat) : ∀ (m i : Nat) (d : Array α), b - i ≤ m → (insOuter lt a b i d).size = d.size := by
  intro m
  induction m with
  | zero =>
    intro i d h
    unfold insOuter
    rw [if_neg (by omega)]
  | succ m ih =>
    intro i d h
    unfold insOuter
    split
    · rw [ih _ _ (by omega), insInnerK_size]
    · rfl
/-- A list sorted by insertion. -/
def insL {α : Type} [Inhabited α] (lt : α → α → Bool) (l : List α) : List α := (insertionSort lt l.toArray 0 l.length).toList
theorem insL_len {α : Type} [Inhabited α] (lt : α → α → Bool) (l : List α) : (insL lt l).length = l.length := by
  unfold insL insertionSort
  rw [Array.length_toList, insOuterK_size _ _ _ _ _ _ (Nat.le_refl _)]
  simp
theorem insL_arr {α : Type} [Inhabited α] (lt : α → α → Bool) (l : List α) : insertionSort lt l.toArray 0 l.length = (insL lt l).toArray := by
  unfold insL
  simp
/-- Up to three elements: two orders that agree where a later one is compared with an earlier one sort alike. -/
theorem insL_same {α : Type} [Inhabited α] (lt lt2 : α → α → Bool) (l : List α) (hl : l.length ≤ 3) (h : ∀ i j, i < j → j < l.length → lt (l.getD j default) (l.getD i default) = lt2 (l.getD j default) (l.getD i default)) : insL lt l = insL lt2 l := by
  match l, hl with
  | [], _ =>
    unfold insL insertionSort insOuter
    simp
  | [x], _ =>
    unfold insL insertionSort insOuter
    simp
  | [x, y], _ =>
    have h1 := h 0 1 (by omega) (by simp)
    simp only [List.getD_cons_zero, List.getD_cons_succ] at h1
    have e : ∀ lt : α → α → Bool, insL lt [x, y] = if lt y x = true then [y, x] else [x, y] := fun lt => by
      unfold insL insertionSort
      rw [insOuter, if_pos (by simp), insOuter, if_neg (by simp)]
      cases hq : lt y x <;> simp [insInner, swp, hq]
    rw [e, e, h1]
  | [x, y, z], _ =>
    have h1 := h 0 1 (by omega) (by simp)
    have h2 := h 0 2 (by omega) (by simp)
    have h3 := h 1 2 (by omega) (by simp)
    simp only [List.getD_cons_zero, List.getD_cons_succ] at h1 h2 h3
    have e : ∀ lt : α → α → Bool, insL lt [x, y, z] = if lt y x = true then (if lt z x = true then (if lt z y = true then [z, y, x] else [y, z, x]) else [y, x, z]) else (if lt z y = true then (if lt z x = true then [z, x, y] else [x, z, y]) else [x, y, z]) := fun lt => by
      unfold insL insertionSort
      rw [insOuter, if_pos (by simp), insOuter, if_pos (by simp), insOuter, if_neg (by simp)]
      cases hq : lt y x <;> cases hr : lt z x <;> cases ht : lt z y <;> simp [insInner, swp, hq, hr, ht]
    rw [e, e, h1, h2, h3]
end Go.Proofs.YtleagenhnchjdaaGreatDoor

set_option linter.unusedVariables false
set_option linter.unusedSimpArgs false
namespace Go.Proofs.YtleagenhnchjdaaGreatDoor
open Go.RowKit

def IntP (n : Int) (w : World) (e : Ending) (w' : World) : Prop := e = .returned (.int .i64 n) ∧ Below w.heap.size w w'
def BoolP (b : Bool) (w : World) (e : Ending) (w' : World) : Prop := e = .returned (.bool b) ∧ Below w.heap.size w w'
end Go.Proofs.YtleagenhnchjdaaGreatDoor

namespace Go.Proofs.YtleagenhnchjdaaGreatDoor

theorem bang_is {α : Type} [Inhabited α] {l : List α} {j : Nat} (h : j < l.length) : l[j]! = l.getD j default := by
  simp [List.getD_eq_getElem?_getD, h]
end Go.Proofs.YtleagenhnchjdaaGreatDoor

set_option linter.unusedVariables false
set_option linter.unusedSimpArgs false
namespace Go.Proofs.YtleagenhnchjdaaGreatDoor
open Go.RowKit

theorem own_lit0 (w : World) (base : Nat) (hb : base ≤ w.heap.size) : (w.alloc (.cells #[] 9)).ownsRow base 9 1 (.slice (some ⟨w.heap.size, 0, none⟩) 0 0) 0 [] := World.ownsRow_lit w #[] 0 hb (by simp only [maxLen]; omega) rfl
def ClonePost (n : Nat) (x : List (List UInt8)) (w : World) (e : Ending) (w' : World) : Prop := ∃ v', e = .returned v' ∧ w'.ownsRow w.heap.size 9 1 v' n (x.map encS) ∧ Below w.heap.size w w'
end Go.Proofs.YtleagenhnchjdaaGreatDoor

set_option linter.unusedVariables false
set_option linter.unusedSimpArgs false
namespace Go.Proofs.YtleagenhnchjdaaGreatDoor
open Go.RowKit Go.Sort

theorem own_short {w : World} {base : Nat} {e : TypeId} {g n cap : Nat} {A B : List Value} (h : w.ownsRow base e 1 (.slice (some ⟨g, 0, none⟩) n cap) n (A ++ B)) : w.ownsRow base e 1 (.slice (some ⟨g, 0, none⟩) A.length cap) A.length A := by
  have hl : (A ++ B).length = n := by have := h.1; simpa using this
  rcases h.2 with ⟨h0, _⟩ | ⟨g', cap', cur, hv, hb, hg, h1, h2, h3, h4⟩
  · cases h0
  · cases hv
    have hA : A.length ≤ n := by rw [← hl, List.length_append]; omega
    refine ⟨by simp, Or.inr ⟨g, cap, cur, rfl, hb, hg, by omega, h2, h3, ?_⟩⟩
    have h5 := congrArg (List.take A.length) h4
    rw [List.take_take, List.take_left, Nat.min_eq_left (by omega)] at h5
    rw [Nat.mul_one]
    exact h5
def SortPost (base : Nat) (v : Value) (n : Nat) (ys : List (List UInt8)) (w : World) (e : Ending) (w' : World) : Prop :=
  e = .returned (.tuple #[]) ∧ w'.ownsRow base 9 1 v n (ys.map encS) ∧ w.grownBy w' v.ownBlock
theorem grown_same (w : World) (r : Option Nat) : w.grownBy w r := ⟨rfl, rfl, rfl, Nat.le_refl _, fun _ _ _ => rfl⟩
theorem sort_own {w : World} {base : Nat} {v : Value} {n : Nat} {xs : List (List UInt8)} (h : w.ownsRow base 9 1 v n (xs.map encS)) (hn : n ≤ 100000) : Calls Tryz.prog 56 #[v] w (SortPost base v n (xs.mergeSort leB) w) := by
  have hl : xs.length = n := by have := h.1; simpa using this
  rcases h.2 with ⟨rfl, h0⟩ | ⟨g, cap, cur, rfl, hb, hg, h1, h2, h3, h4⟩
  · obtain rfl : xs = [] := List.eq_nil_of_length_eq_zero (by omega)
    refine (Tryz.slices_SortS_none none 0 w).mono ?_
    rintro e w' ⟨rfl, rfl⟩
    exact ⟨rfl, by simpa using h, grown_same _ _⟩
  · have hlt := (Array.getElem?_eq_some_iff.1 hg).1
    subst hl
    refine (Tryz.slices_SortS g 0 cap xs w (holds_of_block hg (by rw [Nat.mul_one] at h4; exact h4)) hlt (by omega)).mono ?_
    rintro e w' ⟨rfl, q, os, rfl⟩
    exact ⟨rfl, ownsRow_sorted (by simp) hb hg h1 h2 h3, grownBy_sorted _⟩
def CompactPost (base : Nat) (v : Value) (ys : List (List UInt8)) (w : World) (e : Ending) (w' : World) : Prop :=
  ∃ v', e = .returned v' ∧ w'.ownsRow base 9 1 v' ys.length (ys.map encS) ∧ w.grownBy w' v.ownBlock
def OncePost (ys : List (List UInt8)) (w : World) (e : Ending) (w' : World) : Prop :=
  ∃ v', e = .returned v' ∧ w'.ownsRow w.heap.size 9 1 v' ys.length (ys.map encS) ∧ Below w.heap.size w w'
end Go.Proofs.YtleagenhnchjdaaGreatDoor

set_option linter.unusedVariables false
set_option linter.unusedSimpArgs false
namespace Go.Proofs.YtleagenhnchjdaaGreatDoor
open Go.RowKit

theorem isNumB_eq (s : List UInt8) : isNumB s = (Lib.hasPrefix s [43] && (digitsB (s.drop 1) 4 15 && ((s.drop 1).headD 0 != 48))) := by
  unfold isNumB Lib.trimPrefix
  cases h : Lib.hasPrefix s [43] with
  | false => rfl
  | true => rfl

end Go.Proofs.YtleagenhnchjdaaGreatDoor

set_option linter.unusedVariables false
set_option linter.unusedSimpArgs false
namespace Go.Proofs.YtleagenhnchjdaaGreatDoor
open Go.RowKit

def firstE (a b : Int) : Int := if a ≠ 0 then a else b
end Go.Proofs.YtleagenhnchjdaaGreatDoor

set_option linter.unusedVariables false
set_option linter.unusedSimpArgs false
namespace Go.Proofs.YtleagenhnchjdaaGreatDoor
open Go.RowKit Go.Sort Go.Lib

theorem ltS_tri (a b : List UInt8) : a < b ∨ a = b ∨ b < a := by
  by_cases h : a < b
  · exact Or.inl h
  · by_cases h2 : b < a
    · exact Or.inr (Or.inr h2)
    · exact Or.inr (Or.inl (List.le_antisymm (List.not_lt.1 h2) (List.not_lt.1 h)))
theorem ltS_no {a b : List UInt8} (h : a < b) : ¬ b < a := fun h2 => List.lt_irrefl a (List.lt_trans h h2)
theorem cmpI_neg (x y : Int) : Lib.compareInt x y < 0 ↔ x < y := by unfold Lib.compareInt; repeat' split <;> omega
theorem cmpI_zero (x y : Int) : Lib.compareInt x y = 0 ↔ x = y := by unfold Lib.compareInt; repeat' split <;> omega
theorem cmpS_neg (a b : List UInt8) : Lib.compareBytes a b < 0 ↔ a < b := by rw [cmp_neg, bytesLess_eq, decide_eq_true_eq]
theorem firstE_neg (a b : Int) : firstE a b < 0 ↔ a < 0 ∨ (a = 0 ∧ b < 0) := by unfold firstE; split <;> omega
theorem firstE_zero (a b : Int) : firstE a b = 0 ↔ a = 0 ∧ b = 0 := by unfold firstE; split <;> omega
end Go.Proofs.YtleagenhnchjdaaGreatDoor

set_option linter.unusedVariables false
set_option linter.unusedSimpArgs false
namespace Go.Proofs.YtleagenhnchjdaaGreatDoor
open Go.RowKit Go.Sort Go.Lib

/-- One api.Record. -/
structure Vrec where
  id : List UInt8
  frm : List UInt8
  to_ : List UInt8
  at_ : Int
  ring : Int
  talk : Int
  how : Int
  car : List UInt8
deriving DecidableEq
def noVrec : Vrec := ⟨[], [], [], 0, 0, 0, 0, []⟩
instance : Inhabited Vrec := ⟨noVrec⟩
end Go.Proofs.YtleagenhnchjdaaGreatDoor

set_option linter.unusedVariables false
set_option linter.unusedSimpArgs false
namespace Go.Proofs.YtleagenhnchjdaaGreatDoor
open Go.RowKit Go.Sort Go.Lib

def Vrec.cells (x : Vrec) : List Value := [.string ⟨x.id.toArray⟩, .string ⟨x.frm.toArray⟩, .string ⟨x.to_.toArray⟩, .int .i64 x.at_, .int .i64 x.ring, .int .i64 x.talk, .int .i64 x.how, .string ⟨x.car.toArray⟩]
def Vrec.val (x : Vrec) : Value := .agg #[.string ⟨x.id.toArray⟩, .string ⟨x.frm.toArray⟩, .string ⟨x.to_.toArray⟩, .int .i64 x.at_, .int .i64 x.ring, .int .i64 x.talk, .int .i64 x.how, .string ⟨x.car.toArray⟩]
def VrecRow (w : World) (base : Nat) (v : Value) (l : List Vrec) : Prop := w.ownsRow base 50 8 v l.length ((l.map Vrec.cells).flatten)
theorem rec_one : ∀ (x : Vrec), ∀ v ∈ Vrec.cells x, v.oneCell' = true := fun x v hv => by
  simp only [Vrec.cells, List.mem_cons, List.not_mem_nil, or_false] at hv
  rcases hv with rfl | rfl | rfl | rfl | rfl | rfl | rfl | rfl <;> rfl
theorem Tryz.recSz : (Tryz.prog.info? 50).map (·.size) = some 8 := by kernel_rfl
theorem Tryz.recInfo : (Tryz.prog.info? 50).map (fun i => (i.zero, i.size, i.bytes)) = some (some (.agg #[.string ⟨#[]⟩, .string ⟨#[]⟩, .string ⟨#[]⟩, .int .i64 0, .int .i64 0, .int .i64 0, .int .i64 0, .string ⟨#[]⟩]), 8, 96) := by kernel_rfl
theorem rec_put {w : World} {base g n cap : Nat} {e : TypeId} {R : List Vrec} (h : w.ownsRow base e 8 (.slice (some ⟨g, 0, none⟩) n cap) n ((R.map Vrec.cells).flatten)) (i : Nat) (hi : i < R.length) (x : Vrec) :
    (w.setCells g (i * 8) x.cells).ownsRow base e 8 (.slice (some ⟨g, 0, none⟩) n cap) n (((R.set i x).map Vrec.cells).flatten) := by
  obtain ⟨a0, a1, a2, a3, a4, a5, a6, a7⟩ := x
  have h1 := own_put1 Vrec.cells (fun _ => rfl) h i 0 default ⟨a0, (R.getD i default).frm, (R.getD i default).to_, (R.getD i default).at_, (R.getD i default).ring, (R.getD i default).talk, (R.getD i default).how, (R.getD i default).car⟩ (.string ⟨a0.toArray⟩) hi (by omega) rfl
  rw [Nat.add_zero] at h1
  have h2 := own_put1 Vrec.cells (fun _ => rfl) h1 i 1 default ⟨a0, a1, (R.getD i default).to_, (R.getD i default).at_, (R.getD i default).ring, (R.getD i default).talk, (R.getD i default).how, (R.getD i default).car⟩ (.string ⟨a1.toArray⟩) (by simpa using hi) (by omega) (by simp [hi, Vrec.cells])
  rw [List.set_set] at h2
  have h3 := own_put1 Vrec.cells (fun _ => rfl) h2 i 2 default ⟨a0, a1, a2, (R.getD i default).at_, (R.getD i default).ring, (R.getD i default).talk, (R.getD i default).how, (R.getD i default).car⟩ (.string ⟨a2.toArray⟩) (by simpa using hi) (by omega) (by simp [hi, Vrec.cells])
  rw [List.set_set] at h3
  have h4 := own_put1 Vrec.cells (fun _ => rfl) h3 i 3 default ⟨a0, a1, a2, a3, (R.getD i default).ring, (R.getD i default).talk, (R.getD i default).how, (R.getD i default).car⟩ (.int .i64 a3) (by simpa using hi) (by omega) (by simp [hi, Vrec.cells])
  rw [List.set_set] at h4
  have h5 := own_put1 Vrec.cells (fun _ => rfl) h4 i 4 default ⟨a0, a1, a2, a3, a4, (R.getD i default).talk, (R.getD i default).how, (R.getD i default).car⟩ (.int .i64 a4) (by simpa using hi) (by omega) (by simp [hi, Vrec.cells])
  rw [List.set_set] at h5
  have h6 := own_put1 Vrec.cells (fun _ => rfl) h5 i 5 default ⟨a0, a1, a2, a3, a4, a5, (R.getD i default).how, (R.getD i default).car⟩ (.int .i64 a5) (by simpa using hi) (by omega) (by simp [hi, Vrec.cells])
  rw [List.set_set] at h6
  have h7 := own_put1 Vrec.cells (fun _ => rfl) h6 i 6 default ⟨a0, a1, a2, a3, a4, a5, a6, (R.getD i default).car⟩ (.int .i64 a6) (by simpa using hi) (by omega) (by simp [hi, Vrec.cells])
  rw [List.set_set] at h7
  have h8 := own_put1 Vrec.cells (fun _ => rfl) h7 i 7 default ⟨a0, a1, a2, a3, a4, a5, a6, a7⟩ (.string ⟨a7.toArray⟩) (by simpa using hi) (by omega) (by simp [hi, Vrec.cells])
  rw [List.set_set] at h8
  exact h8
theorem rec_mem {L : List Vrec} {i : Nat} (h : i < L.length) : L.getD i default ∈ L := by
  rw [List.getD_eq_getElem?_getD, List.getElem?_eq_getElem h]
  exact List.getElem_mem h
theorem rec_set (R : List Vrec) (i j : Nat) (x : Vrec) (hi : i < R.length) : (R.set i x).getD j default = if j = i then x else R.getD j default := by
  rw [List.getD_eq_getElem?_getD, List.getD_eq_getElem?_getD, List.getElem?_set]
  by_cases e : i = j
  · subst e; simp [hi]
  · simp [e, Ne.symm e]
end Go.Proofs.YtleagenhnchjdaaGreatDoor

set_option linter.unusedVariables false
set_option linter.unusedSimpArgs false
namespace Go.Proofs.YtleagenhnchjdaaGreatDoor
open Go.RowKit Go.Sort Go.Lib

/-- Records are in order by At and Id. -/
def Vrec.lt (a b : Vrec) : Prop := a.at_ < b.at_ ∨ (a.at_ = b.at_ ∧ a.id < b.id)
def recCmp (a b : Vrec) : Int := firstE (Lib.compareInt a.at_ b.at_) (Lib.compareBytes a.id b.id)
theorem recCmp_neg (a b : Vrec) : recCmp a b < 0 ↔ a.lt b := by
  unfold recCmp Vrec.lt
  rw [firstE_neg, cmpI_neg, cmpI_zero, cmpS_neg]
theorem recCmp_zero (a b : Vrec) : recCmp a b = 0 ↔ a.at_ = b.at_ ∧ a.id = b.id := by
  unfold recCmp
  rw [firstE_zero, cmpI_zero, cmp_zero]
theorem Vrec.lt.tr {a b c : Vrec} (h : a.lt b) (k : b.lt c) : a.lt c := by
  unfold Vrec.lt at *
  rcases h with h | ⟨h0, h⟩ <;> rcases k with k | ⟨k0, k⟩
  · left; omega
  · left; omega
  · left; omega
  · exact Or.inr ⟨by omega, List.lt_trans h k⟩
theorem Vrec.lt_irrefl (a : Vrec) : ¬ a.lt a := fun h => by
  rcases h with h | ⟨_, h⟩
  · omega
  · exact List.lt_irrefl _ h
theorem Vrec.tri (a b : Vrec) : a.lt b ∨ (a.at_ = b.at_ ∧ a.id = b.id) ∨ b.lt a := by
  unfold Vrec.lt
  rcases Int.lt_trichotomy a.at_ b.at_ with h | h | h
  · exact Or.inl (Or.inl h)
  · rcases ltS_tri a.id b.id with h1 | h1 | h1
    · exact Or.inl (Or.inr ⟨h, h1⟩)
    · exact Or.inr (Or.inl ⟨h, h1⟩)
    · exact Or.inr (Or.inr (Or.inr ⟨h.symm, h1⟩))
  · exact Or.inr (Or.inr (Or.inl h))
theorem Vrec.lt.asymm {a b : Vrec} (h : a.lt b) : ¬ b.lt a := fun k => a.lt_irrefl (h.tr k)
/-- A record counts before another one with the same Id. -/
def recBet (a b : Vrec) : Int := firstE (Lib.compareInt b.talk a.talk) (firstE (Lib.compareInt b.ring a.ring) (firstE (Lib.compareInt a.at_ b.at_) (firstE (Lib.compareInt a.how b.how) (firstE (Lib.compareBytes a.frm b.frm) (firstE (Lib.compareBytes a.to_ b.to_) (Lib.compareBytes a.car b.car))))))
def Vrec.bet (a b : Vrec) : Prop := recBet a b < 0
theorem bet_is (a b : Vrec) : a.bet b ↔ b.talk < a.talk ∨ (b.talk = a.talk ∧ (b.ring < a.ring ∨ (b.ring = a.ring ∧ (a.at_ < b.at_ ∨ (a.at_ = b.at_ ∧ (a.how < b.how ∨ (a.how = b.how ∧ (a.frm < b.frm ∨ (a.frm = b.frm ∧ (a.to_ < b.to_ ∨ (a.to_ = b.to_ ∧ a.car < b.car))))))))))) := by
  unfold Vrec.bet recBet
  simp only [firstE_neg, cmpI_neg, cmpI_zero, cmpS_neg, cmp_zero]
theorem bet_tri (a b : Vrec) (h : a.id = b.id) : a.bet b ∨ a = b ∨ b.bet a := by
  rw [bet_is, bet_is]
  rcases Int.lt_trichotomy b.talk a.talk with h1 | h1 | h1
  · exact Or.inl (Or.inl h1)
  · rcases Int.lt_trichotomy b.ring a.ring with h2 | h2 | h2
    · exact Or.inl (Or.inr ⟨h1, Or.inl h2⟩)
    · rcases Int.lt_trichotomy a.at_ b.at_ with h3 | h3 | h3
      · exact Or.inl (Or.inr ⟨h1, Or.inr ⟨h2, Or.inl h3⟩⟩)
      · rcases Int.lt_trichotomy a.how b.how with h4 | h4 | h4
        · exact Or.inl (Or.inr ⟨h1, Or.inr ⟨h2, Or.inr ⟨h3, Or.inl h4⟩⟩⟩)
        · rcases ltS_tri a.frm b.frm with h5 | h5 | h5
          · exact Or.inl (Or.inr ⟨h1, Or.inr ⟨h2, Or.inr ⟨h3, Or.inr ⟨h4, Or.inl h5⟩⟩⟩⟩)
          · rcases ltS_tri a.to_ b.to_ with h6 | h6 | h6
            · exact Or.inl (Or.inr ⟨h1, Or.inr ⟨h2, Or.inr ⟨h3, Or.inr ⟨h4, Or.inr ⟨h5, Or.inl h6⟩⟩⟩⟩⟩)
            · rcases ltS_tri a.car b.car with h7 | h7 | h7
              · exact Or.inl (Or.inr ⟨h1, Or.inr ⟨h2, Or.inr ⟨h3, Or.inr ⟨h4, Or.inr ⟨h5, Or.inr ⟨h6, h7⟩⟩⟩⟩⟩⟩)
              · obtain ⟨a0, a1, a2, a3, a4, a5, a6, a7⟩ := a
                obtain ⟨b0, b1, b2, b3, b4, b5, b6, b7⟩ := b
                simp only at h h1 h2 h3 h4 h5 h6 h7
                subst h h1 h2 h3 h4 h5 h6 h7
                exact Or.inr (Or.inl rfl)
              · exact Or.inr (Or.inr (Or.inr ⟨h1.symm, Or.inr ⟨h2.symm, Or.inr ⟨h3.symm, Or.inr ⟨h4.symm, Or.inr ⟨h5.symm, Or.inr ⟨h6.symm, h7⟩⟩⟩⟩⟩⟩))
            · exact Or.inr (Or.inr (Or.inr ⟨h1.symm, Or.inr ⟨h2.symm, Or.inr ⟨h3.symm, Or.inr ⟨h4.symm, Or.inr ⟨h5.symm, Or.inl h6⟩⟩⟩⟩⟩))
          · exact Or.inr (Or.inr (Or.inr ⟨h1.symm, Or.inr ⟨h2.symm, Or.inr ⟨h3.symm, Or.inr ⟨h4.symm, Or.inl h5⟩⟩⟩⟩))
        · exact Or.inr (Or.inr (Or.inr ⟨h1.symm, Or.inr ⟨h2.symm, Or.inr ⟨h3.symm, Or.inl h4⟩⟩⟩))
      · exact Or.inr (Or.inr (Or.inr ⟨h1.symm, Or.inr ⟨h2.symm, Or.inl h3⟩⟩))
    · exact Or.inr (Or.inr (Or.inr ⟨h1.symm, Or.inl h2⟩))
  · exact Or.inr (Or.inr (Or.inl h1))
theorem bet_tr {a b c : Vrec} (h : a.bet b) (k : b.bet c) : a.bet c := by
  rw [bet_is] at *
  rcases h with h | ⟨h1, h | ⟨h2, h | ⟨h3, h | ⟨h4, h | ⟨h5, h | ⟨h6, h⟩⟩⟩⟩⟩⟩ <;> rcases k with k | ⟨k1, k | ⟨k2, k | ⟨k3, k | ⟨k4, k | ⟨k5, k | ⟨k6, k⟩⟩⟩⟩⟩⟩ <;>
    first
    | (left; omega)
    | (right; refine ⟨by omega, ?_⟩; left; omega)
    | (right; refine ⟨by omega, ?_⟩; right; refine ⟨by omega, ?_⟩; left; omega)
    | (right; refine ⟨by omega, ?_⟩; right; refine ⟨by omega, ?_⟩; right; refine ⟨by omega, ?_⟩; left; omega)
    | (right; refine ⟨by omega, ?_⟩; right; refine ⟨by omega, ?_⟩; right; refine ⟨by omega, ?_⟩; right; refine ⟨by omega, ?_⟩; left; first | exact List.lt_trans h k | exact k5 ▸ h | exact h5 ▸ k)
    | (right; refine ⟨by omega, ?_⟩; right; refine ⟨by omega, ?_⟩; right; refine ⟨by omega, ?_⟩; right; refine ⟨by omega, ?_⟩; right; refine ⟨h5.trans k5, ?_⟩; left; first | exact List.lt_trans h k | exact k6 ▸ h | exact h6 ▸ k)
    | (right; refine ⟨by omega, ?_⟩; right; refine ⟨by omega, ?_⟩; right; refine ⟨by omega, ?_⟩; right; refine ⟨by omega, ?_⟩; right; refine ⟨h5.trans k5, ?_⟩; right; exact ⟨h6.trans k6, List.lt_trans h k⟩)
theorem bet_irrefl (a : Vrec) : ¬ a.bet a := fun h => by
  rw [bet_is] at h
  rcases h with h | ⟨_, h | ⟨_, h | ⟨_, h | ⟨_, h | ⟨_, h | ⟨_, h⟩⟩⟩⟩⟩⟩
  · omega
  · omega
  · omega
  · omega
  · exact List.lt_irrefl _ h
  · exact List.lt_irrefl _ h
  · exact List.lt_irrefl _ h
/-- The record that counts of those with its Id. -/
def Top (L : List Vrec) (r : Vrec) : Prop := r ∈ L ∧ ∀ s ∈ L, s.id = r.id → ¬ s.bet r
theorem Top.one {L : List Vrec} {r s : Vrec} (h : Top L r) (k : Top L s) (e : r.id = s.id) : r = s := by
  rcases bet_tri r s e with q | q | q
  · exact absurd q (k.2 r h.1 e)
  · exact q
  · exact absurd q (h.2 s k.1 e.symm)
theorem Top.some : ∀ (L : List Vrec) {s : Vrec}, s ∈ L → ∃ t, Top L t ∧ t.id = s.id ∧ (t = s ∨ t.bet s)
  | [], s, h => by cases h
  | x :: L, s, h => by
    have key : ∀ t, Top L t → t.id = s.id → (t = s ∨ t.bet s) → ∃ t, Top (x :: L) t ∧ t.id = s.id ∧ (t = s ∨ t.bet s) := fun t ht hi hb => by
      by_cases hx : x.id = t.id ∧ x.bet t
      · refine ⟨x, ⟨List.mem_cons_self, fun u hu hui hub => ?_⟩, hx.1.trans hi, ?_⟩
        · rcases List.mem_cons.1 hu with rfl | hu
          · exact bet_irrefl _ hub
          · exact ht.2 u hu (hui.trans hx.1) (bet_tr hub hx.2)
        · rcases hb with rfl | hb
          · exact Or.inr hx.2
          · exact Or.inr (bet_tr hx.2 hb)
      · refine ⟨t, ⟨List.mem_cons_of_mem _ ht.1, fun u hu hui hub => ?_⟩, hi, hb⟩
        rcases List.mem_cons.1 hu with rfl | hu
        · exact hx ⟨hui, hub⟩
        · exact ht.2 u hu hui hub
    rcases List.mem_cons.1 h with rfl | h
    · by_cases hq : ∃ u ∈ L, u.id = s.id ∧ u.bet s
      · obtain ⟨u, hu, hui, hub⟩ := hq
        obtain ⟨t, ht, hti, htb⟩ := Top.some L hu
        refine key t ht (hti.trans hui) (Or.inr ?_)
        rcases htb with rfl | htb
        · exact hub
        · exact bet_tr htb hub
      · exact ⟨s, ⟨List.mem_cons_self, fun u hu hui hub => by
          rcases List.mem_cons.1 hu with rfl | hu
          · exact bet_irrefl _ hub
          · exact hq ⟨u, hu, hui, hub⟩⟩, rfl, Or.inl rfl⟩
    · obtain ⟨t, ht, hti, htb⟩ := Top.some L h
      exact key t ht hti htb
theorem Top.congr {L M : List Vrec} (h : ∀ r, r ∈ L ↔ r ∈ M) (r : Vrec) : Top L r ↔ Top M r :=
  ⟨fun k => ⟨(h r).1 k.1, fun s hs => k.2 s ((h s).2 hs)⟩, fun k => ⟨(h r).2 k.1, fun s hs => k.2 s ((h s).1 hs)⟩⟩
/-- What counts of what counts. -/
theorem Top.nest {L M N : List Vrec} (h : ∀ r, r ∈ M ↔ Top L r) (r : Vrec) : Top (M ++ N) r ↔ Top (L ++ N) r := by
  constructor
  · intro ⟨h1, h2⟩
    refine ⟨?_, fun s hs hi hb => ?_⟩
    · rcases List.mem_append.1 h1 with h1 | h1
      · exact List.mem_append_left _ ((h r).1 h1).1
      · exact List.mem_append_right _ h1
    · rcases List.mem_append.1 hs with hs | hs
      · obtain ⟨t, ht, hti, htb⟩ := Top.some L hs
        refine h2 t (List.mem_append_left _ ((h t).2 ht)) (hti.trans hi) ?_
        rcases htb with rfl | htb
        · exact hb
        · exact bet_tr htb hb
      · exact h2 s (List.mem_append_right _ hs) hi hb
  · intro ⟨h1, h2⟩
    refine ⟨?_, fun s hs => ?_⟩
    · rcases List.mem_append.1 h1 with h1 | h1
      · exact List.mem_append_left _ ((h r).2 ⟨h1, fun s hs => h2 s (List.mem_append_left _ hs)⟩)
      · exact List.mem_append_right _ h1
    · rcases List.mem_append.1 hs with hs | hs
      · exact h2 s (List.mem_append_left _ ((h s).1 hs).1)
      · exact h2 s (List.mem_append_right _ hs)
/-- Records in strict order, each Id once. -/
structure RecAsc (l : List Vrec) : Prop where
  asc : l.Pairwise Vrec.lt
  ids : l.Pairwise fun a b => a.id ≠ b.id
theorem RecAsc.uniq {l x : List Vrec} (hl : l.Pairwise Vrec.lt) (hx : x.Pairwise Vrec.lt) (h : ∀ r, r ∈ l ↔ r ∈ x) : l = x := by
  have n1 : l.Nodup := hl.imp (fun {a b} hab e => a.lt_irrefl (by rw [← e] at hab; exact hab))
  have n2 : x.Nodup := hx.imp (fun {a b} hab e => a.lt_irrefl (by rw [← e] at hab; exact hab))
  refine List.Perm.eq_of_pairwise (le := fun a b => ¬ b.lt a) (fun a b ha hb h1 h2 => ?_) (hl.imp (fun {a b} h => h.asymm)) (hx.imp (fun {a b} h => h.asymm)) ((List.perm_ext_iff_of_nodup n1 n2).2 h)
  rcases a.tri b with k | k | k
  · exact absurd k h2
  · obtain ⟨i, hi, rfl⟩ := List.getElem_of_mem ha
    obtain ⟨j, hj, rfl⟩ := List.getElem_of_mem ((h b).2 hb)
    have nlt : ∀ u v : Vrec, u.at_ = v.at_ ∧ u.id = v.id → ¬ u.lt v := fun u v hu hlt => by
      rcases hlt with q | ⟨_, q⟩
      · omega
      · rw [hu.2] at q; exact List.lt_irrefl _ q
    rcases Nat.lt_trichotomy i j with q | q | q
    · exact absurd (List.pairwise_iff_getElem.1 hl i j hi hj q) (nlt _ _ k)
    · subst q; rfl
    · exact absurd (List.pairwise_iff_getElem.1 hl j i hj hi q) (nlt _ _ ⟨k.1.symm, k.2.symm⟩)
  · exact absurd k h1
theorem RecAsc.same_id {l : List Vrec} (h : l.Pairwise fun a b => a.id ≠ b.id) {a b : Vrec} (ha : a ∈ l) (hb : b ∈ l) (e : a.id = b.id) : a = b := by
  obtain ⟨i, hi, rfl⟩ := List.getElem_of_mem ha
  obtain ⟨j, hj, rfl⟩ := List.getElem_of_mem hb
  rcases Nat.lt_trichotomy i j with q | q | q
  · exact absurd e (List.pairwise_iff_getElem.1 h i j hi hj q)
  · subst q; rfl
  · exact absurd e.symm (List.pairwise_iff_getElem.1 h j i hj hi q)
/-- The records that count, each Id once. -/
structure Rep (out L : List Vrec) : Prop where
  ids : out.Pairwise fun a b => a.id ≠ b.id
  mem : ∀ r, r ∈ out ↔ Top L r
theorem Rep.start {a : List Vrec} (h : a.Pairwise fun a b => a.id ≠ b.id) : Rep a a := ⟨h, fun r => ⟨fun hr => ⟨hr, fun s hs hi hb => by
  rw [RecAsc.same_id h hs hr hi] at hb
  exact bet_irrefl _ hb⟩, fun hr => hr.1⟩⟩
theorem Rep.new {out L : List Vrec} {r : Vrec} (h : Rep out L) (hr : ∀ s ∈ out, s.id ≠ r.id) : Rep (out ++ [r]) (L ++ [r]) := by
  have hL : ∀ s ∈ L, s.id ≠ r.id := fun s hs e => by
    obtain ⟨t, ht, hti, _⟩ := Top.some L hs
    exact hr t ((h.mem t).2 ht) (hti.trans e)
  refine ⟨List.pairwise_append.2 ⟨h.ids, List.pairwise_singleton _ _, fun a ha b hb => by rw [List.mem_singleton.1 hb]; exact hr a ha⟩, fun s => ?_⟩
  rw [List.mem_append, h.mem, List.mem_singleton]
  constructor
  · rintro (hs | rfl)
    · refine ⟨List.mem_append_left _ hs.1, fun u hu hi hb => ?_⟩
      rcases List.mem_append.1 hu with hu | hu
      · exact hs.2 u hu hi hb
      · rw [List.mem_singleton.1 hu] at hi
        exact hL s hs.1 hi.symm
    · refine ⟨List.mem_append_right _ (List.mem_singleton.2 rfl), fun u hu hi hb => ?_⟩
      rcases List.mem_append.1 hu with hu | hu
      · exact hL u hu hi
      · rw [List.mem_singleton.1 hu] at hb
        exact bet_irrefl _ hb
  · rintro ⟨h1, h2⟩
    rcases List.mem_append.1 h1 with h1 | h1
    · exact Or.inl ⟨h1, fun u hu => h2 u (List.mem_append_left _ hu)⟩
    · exact Or.inr (List.mem_singleton.1 h1)
theorem Rep.old {out L : List Vrec} {r x : Vrec} (h : Rep out L) (hx : x ∈ out) (hi : x.id = r.id) (hb : ¬ r.bet x) : Rep out (L ++ [r]) := by
  refine ⟨h.ids, fun s => ?_⟩
  rw [h.mem]
  have hxt := (h.mem x).1 hx
  constructor
  · intro hs
    refine ⟨List.mem_append_left _ hs.1, fun u hu hui hub => ?_⟩
    rcases List.mem_append.1 hu with hu | hu
    · exact hs.2 u hu hui hub
    · rw [List.mem_singleton.1 hu] at hui hub
      rw [Top.one hxt hs (hi.trans hui)] at hb
      exact hb hub
  · rintro ⟨h1, h2⟩
    rcases List.mem_append.1 h1 with h1 | h1
    · exact ⟨h1, fun u hu => h2 u (List.mem_append_left _ hu)⟩
    · rw [List.mem_singleton.1 h1] at h2 ⊢
      rcases bet_tri x r hi with q | q | q
      · exact absurd q (h2 x (List.mem_append_left _ hxt.1) hi)
      · rw [← q]; exact hxt
      · exact absurd q hb
theorem Rep.put {out L : List Vrec} {r : Vrec} {i : Nat} (h : Rep out L) (hi : i < out.length) (he : (out.getD i default).id = r.id) (hb : r.bet (out.getD i default)) : Rep (out.set i r) (L ++ [r]) := by
  have hg : out.getD i default = out[i] := by rw [List.getD_eq_getElem?_getD, List.getElem?_eq_getElem hi]; rfl
  rw [hg] at he hb
  have hxt := (h.mem _).1 (List.getElem_mem hi)
  have hmem : ∀ s, s ∈ out.set i r ↔ s = r ∨ (s ∈ out ∧ s.id ≠ r.id) := fun s => by
    constructor
    · intro hs
      obtain ⟨j, hj, rfl⟩ := List.getElem_of_mem hs
      rw [List.length_set] at hj
      rw [List.getElem_set]
      split
      · exact Or.inl rfl
      · next hne =>
        refine Or.inr ⟨List.getElem_mem hj, fun e => ?_⟩
        rcases Nat.lt_trichotomy i j with q | q | q
        · exact List.pairwise_iff_getElem.1 h.ids i j hi hj q (he.trans e.symm)
        · exact hne q
        · exact List.pairwise_iff_getElem.1 h.ids j i hj hi q (e.trans he.symm)
    · rintro (rfl | ⟨hs, hne⟩)
      · exact List.mem_set hi _
      · obtain ⟨j, hj, rfl⟩ := List.getElem_of_mem hs
        have hij : i ≠ j := fun e => by subst e; exact hne he
        have : (out.set i r)[j]'(by rw [List.length_set]; exact hj) = out[j] := by rw [List.getElem_set]; simp [hij]
        rw [← this]
        exact List.getElem_mem _
  refine ⟨?_, fun s => ?_⟩
  · rw [List.pairwise_iff_getElem]
    intro p q hp hq hpq
    rw [List.length_set] at hp hq
    rw [List.getElem_set, List.getElem_set]
    have hids := List.pairwise_iff_getElem.1 h.ids p q hp hq hpq
    by_cases h1 : i = p
    · subst h1
      rw [if_pos rfl, if_neg (by omega), ← he]
      exact hids
    · rw [if_neg h1]
      by_cases h2 : i = q
      · subst h2
        rw [if_pos rfl, ← he]
        exact hids
      · rw [if_neg h2]
        exact hids
  · rw [hmem]
    constructor
    · rintro (rfl | ⟨hs, hne⟩)
      · refine ⟨List.mem_append_right _ (List.mem_singleton.2 rfl), fun u hu hui hub => ?_⟩
        rcases List.mem_append.1 hu with hu | hu
        · exact hxt.2 u hu (hui.trans he.symm) (bet_tr hub hb)
        · rw [List.mem_singleton.1 hu] at hub
          exact bet_irrefl _ hub
      · have hst := (h.mem s).1 hs
        refine ⟨List.mem_append_left _ hst.1, fun u hu hui hub => ?_⟩
        rcases List.mem_append.1 hu with hu | hu
        · exact hst.2 u hu hui hub
        · rw [List.mem_singleton.1 hu] at hui
          exact hne hui.symm
    · rintro ⟨h1, h2⟩
      by_cases hsr : s.id = r.id
      · rcases List.mem_append.1 h1 with h1 | h1
        · exfalso
          refine h2 r (List.mem_append_right _ (List.mem_singleton.2 rfl)) hsr.symm ?_
          rcases bet_tri (out[i]) s (he.trans hsr.symm) with q | q | q
          · exact bet_tr hb q
          · rw [← q]; exact hb
          · exact absurd q (hxt.2 s h1 (hsr.trans he.symm))
        · exact Or.inl (List.mem_singleton.1 h1)
      · rcases List.mem_append.1 h1 with h1 | h1
        · exact Or.inr ⟨(h.mem s).2 ⟨h1, fun u hu => h2 u (List.mem_append_left _ hu)⟩, hsr⟩
        · exact Or.inl (List.mem_singleton.1 h1)
theorem ltR_is (x y : Vrec) : ltOf recCmp x y = decide (recCmp x y < 0) := rfl
theorem swo_R : SWO (ltOf recCmp) := by
  constructor
  · intro x
    rw [ltR_is, decide_eq_false_iff_not, recCmp_neg]; exact x.lt_irrefl
  · intro x y z h k
    simp only [ltR_is, decide_eq_true_eq, recCmp_neg] at *
    exact h.tr k
  · intro x y z h k
    simp only [ltR_is, decide_eq_false_iff_not, recCmp_neg] at *
    intro hl
    rcases x.tri y with q | q | q
    · exact h q
    · exact k (by
        unfold Vrec.lt at hl ⊢
        rw [← q.1, ← q.2]; exact hl)
    · exact k (q.tr hl)
/-- Records that are sorted, each Id once, are in strict order. -/
theorem sorted_asc {l : List Vrec} (h : l.Pairwise fun a b => ltOf recCmp b a = false) (hi : l.Pairwise fun a b => a.id ≠ b.id) : l.Pairwise Vrec.lt :=
  (h.and hi).imp (fun {a b} ⟨h1, h2⟩ => by
    rw [ltR_is, decide_eq_false_iff_not, recCmp_neg] at h1
    rcases a.tri b with k | k | k
    · exact k
    · exact absurd k.2 h2
    · exact absurd k h1)
theorem ids_perm {l m : List Vrec} (h : l.Perm m) (hm : m.Pairwise fun a b => a.id ≠ b.id) : l.Pairwise fun a b => a.id ≠ b.id := h.symm.pairwise hm (fun {a b} h e => h e.symm)
end Go.Proofs.YtleagenhnchjdaaGreatDoor

set_option linter.unusedVariables false
set_option linter.unusedSimpArgs false
namespace Go.Proofs.YtleagenhnchjdaaGreatDoor
open Go.RowKit Go.Sort Go.Lib

/-- The carriers that are drawn: none, west, A. -/
def carsB : List (List UInt8) := [[], [119, 101, 115, 116], [65]]
structure RecB (a : Vrec) : Prop where
  at0 : -4398046511104 ≤ a.at_
  at1 : a.at_ ≤ 4398046511104
  ring0 : -4398046511104 ≤ a.ring
  ring1 : a.ring ≤ 4398046511104
  talk0 : -4398046511104 ≤ a.talk
  talk1 : a.talk ≤ 4398046511104
  how0 : -4398046511104 ≤ a.how
  how1 : a.how ≤ 4398046511104
  id : a.id.length ≤ 10
  frm : a.frm.length ≤ 20
  to_ : a.to_.length ≤ 20
  car : a.car ∈ carsB
structure RecGood (a : Vrec) : Prop where
  id : isKeyB a.id = true
  frm : isNumB a.frm = true
  to_ : isNumB a.to_ = true
  mom : isMomB a.at_ = true
  ring0 : 0 ≤ a.ring
  ring1 : a.ring ≤ 86400000
  talk0 : 0 ≤ a.talk
  talk1 : a.talk ≤ 86400000
  how0 : 1 ≤ a.how
  how1 : a.how ≤ 4
  ends : a.how = 1 ↔ 0 < a.talk
  car : a.car = [] ∨ isKeyB a.car = true
/-- Right records. -/
structure RecsOk (l : List Vrec) : Prop where
  good : ∀ a ∈ l, RecGood a
  asc : l.Pairwise Vrec.lt
  ids : l.Pairwise fun a b => a.id ≠ b.id
theorem RecsOk.nil : RecsOk [] := ⟨fun a h => (by cases h), List.Pairwise.nil, List.Pairwise.nil⟩
theorem rec_asc_of {l : List Vrec} (h : ∀ i, i + 1 < l.length → (l.getD i default).lt (l.getD (i + 1) default)) : l.Pairwise Vrec.lt := by
  have key : ∀ d i, i + d + 1 < l.length → (l.getD i default).lt (l.getD (i + d + 1) default) := by
    intro d
    induction d with
    | zero => intro i hi; exact h i hi
    | succ d ih =>
      intro i hi
      exact (ih i (by omega)).tr (by have := h (i + d + 1) (by omega); exact this)
  rw [List.pairwise_iff_getElem]
  intro i j hi hj hij
  have := key (j - i - 1) i (by omega)
  rw [show i + (j - i - 1) + 1 = j by omega] at this
  rw [List.getD_eq_getElem?_getD, List.getD_eq_getElem?_getD, List.getElem?_eq_getElem hi, List.getElem?_eq_getElem hj] at this
  exact this
theorem RecsOk.step {l : List Vrec} (h : RecsOk l) (i : Nat) (hi : i + 1 < l.length) : (l.getD i default).lt (l.getD (i + 1) default) := by
  have := List.pairwise_iff_getElem.1 h.asc i (i + 1) (by omega) hi (by omega)
  rw [List.getD_eq_getElem?_getD, List.getD_eq_getElem?_getD, List.getElem?_eq_getElem (by omega), List.getElem?_eq_getElem hi]
  exact this
end Go.Proofs.YtleagenhnchjdaaGreatDoor

set_option linter.unusedVariables false
set_option linter.unusedSimpArgs false
namespace Go.Proofs.YtleagenhnchjdaaGreatDoor
open Go.RowKit Go.Sort Go.Lib

theorem wp_valA {P : Program} {o : Oper} {a : Act} {w w' : World} {v : Value} {K : Act → World → Prop} {Q : Exit → Act → World → Prop} (h : (execOp a.eval o).run P w = .ok (.value v) w') (hK : K (a.put o.dst v) w') : Oper.wp P o a w K Q := by
  unfold Oper.wp; rw [h]; exact hK
end Go.Proofs.YtleagenhnchjdaaGreatDoor

set_option linter.unusedVariables false
set_option linter.unusedSimpArgs false
namespace Go.Proofs.YtleagenhnchjdaaGreatDoor
open Go.RowKit

/-- The table of powers of ten is laid, ahead of block S. -/
def TabW (S : Nat) (w : World) : Prop := Lib.TabIs Tryz.prog w "internal/strconv.uint64pow10" .u64 Lib.pow10Tab ∧ 2 < S
theorem gPow : Tryz.prog.globalNamed "internal/strconv.uint64pow10" = some 2 := by kernel_rfl
theorem tab_block {w w' : World} {S : Nat} (h : TabW S w) (hb : w'.heap[2]? = w.heap[2]?) : TabW S w' := by
  refine ⟨?_, h.2⟩
  have h1 := h.1
  unfold Lib.TabIs World.var? at h1 ⊢
  rw [gPow] at h1 ⊢
  simp only [Option.bind_some] at h1 ⊢
  rw [hb]
  exact h1
theorem tab_keeps {w w' : World} {S : Nat} (h : TabW S w) (hk : Keeps S w w') (hS : S < w.heap.size) : TabW S w' :=
  tab_block h (hk.block _ (Nat.lt_trans h.2 hS) (Nat.ne_of_lt h.2))
theorem tab_below {w w' : World} {S B : Nat} (h : TabW S w) (hb : Below B w w') (hS : S ≤ B) : TabW S w' :=
  tab_block h (hb.block _ (Nat.lt_of_lt_of_le h.2 hS))
theorem below_grow (w : World) (q : Nat) (os : Array Obj) : Below w.heap.size w (Go.Sort.grow (w.drewN q) os) := by
  refine ⟨rfl, rfl, rfl, ?_, fun k hk => Go.Sort.heap_grow_old _ _ hk⟩
  rw [Go.Sort.size_grow]
  exact Nat.le_add_right _ _
end Go.Proofs.YtleagenhnchjdaaGreatDoor

set_option linter.unusedVariables false
set_option linter.unusedSimpArgs false
namespace Go.Proofs.YtleagenhnchjdaaGreatDoor
open Go.RowKit Go.Sort

def Grown (w w' : World) : Prop := ∃ q os, w' = grow (w.drewN q) os
theorem Grown.refl (w : World) : Grown w w := ⟨0, #[], by rw [grow_empty]; rfl⟩
theorem Grown.alloc {w a : World} (h : Grown w a) (o : Obj) : Grown w (a.alloc o) := by
  obtain ⟨q, os, rfl⟩ := h
  exact ⟨q, os ++ #[o], by rw [alloc_eq_grow, grow_grow]⟩
theorem Grown.drewN {w a : World} (h : Grown w a) (n : Nat) : Grown w (a.drewN n) := by
  obtain ⟨q, os, rfl⟩ := h
  refine ⟨q + n, os, ?_⟩
  rw [← World.drewN_drewN]
  rfl
theorem Grown.drew {w a : World} (h : Grown w a) : Grown w a.drew := h.drewN 1
theorem Grown.trans {w a b : World} (h : Grown w a) (k : Grown a b) : Grown w b := by
  obtain ⟨q, os, rfl⟩ := k
  obtain ⟨q2, os2, e⟩ := h.drewN q
  rw [e]
  exact ⟨q2, os2 ++ os, by rw [grow_grow]⟩
theorem Grown.below {w a : World} (h : Grown w a) : Below w.heap.size w a := by
  obtain ⟨q, os, rfl⟩ := h
  exact below_grow _ _ _
/-- What a comparing function answers, with new blocks alone. -/
def CmpP (r : Int) (w : World) (e : Ending) (w' : World) : Prop := e = .returned (.int .i64 r) ∧ ∃ q os', w' = grow (w.drewN q) os'
theorem bs_4i (e : Operand → Value) (o : Oper) (w : World) (i0 i1 i2 i3 : Nat) (z0 z1 z2 z3 : Int) (ho : o.op = .buildSlice 22 4 #[(0, .tmp i0), (1, .tmp i1), (2, .tmp i2), (3, .tmp i3)]) (h0 : e (.tmp i0) = .int .i64 z0) (h1 : e (.tmp i1) = .int .i64 z1) (h2 : e (.tmp i2) = .int .i64 z2) (h3 : e (.tmp i3) = .int .i64 z3) :
   (execOp e o).run Tryz.prog w = .ok (.value (.slice (some ⟨w.heap.size, 0, none⟩) 4 4)) (w.alloc (.cells #[.int .i64 z0, .int .i64 z1, .int .i64 z2, .int .i64 z3] 3)) := by
  unfold execOp
  rw [ho]
  simp only [List.map_toArray, List.map_cons, List.map_nil, h0, h1, h2, h3]
  kernel_rfl
theorem bs_3i (e : Operand → Value) (o : Oper) (w : World) (i0 i1 i2 : Nat) (z0 z1 z2 : Int) (ho : o.op = .buildSlice 22 3 #[(0, .tmp i0), (1, .tmp i1), (2, .tmp i2)]) (h0 : e (.tmp i0) = .int .i64 z0) (h1 : e (.tmp i1) = .int .i64 z1) (h2 : e (.tmp i2) = .int .i64 z2) :
   (execOp e o).run Tryz.prog w = .ok (.value (.slice (some ⟨w.heap.size, 0, none⟩) 3 3)) (w.alloc (.cells #[.int .i64 z0, .int .i64 z1, .int .i64 z2] 3)) := by
  unfold execOp
  rw [ho]
  simp only [List.map_toArray, List.map_cons, List.map_nil, h0, h1, h2]
  kernel_rfl
end Go.Proofs.YtleagenhnchjdaaGreatDoor

set_option linter.unusedVariables false
set_option linter.unusedSimpArgs false
namespace Go.Proofs.YtleagenhnchjdaaGreatDoor
open Go.RowKit

/-- The first one that is not 0; 0 where there is none. -/
def firstL : List Int → Int
  | [] => 0
  | a :: l => if a ≠ 0 then a else firstL l
theorem firstL_at : ∀ (l : List Int) (k : Nat), k < l.length → firstL (l.drop k) = if l.getD k 0 ≠ 0 then l.getD k 0 else firstL (l.drop (k + 1))
  | [], k, h => by simp at h
  | a :: l, 0, _ => rfl
  | a :: l, k + 1, h => firstL_at l k (by simpa using h)
theorem first3 (a b c : Int) : firstL [a, b, c] = firstE a (firstE b c) := by
  unfold firstL firstL firstL firstL firstE
  split <;> first | rfl | (split <;> first | rfl | (split <;> first | rfl | omega))
end Go.Proofs.YtleagenhnchjdaaGreatDoor

set_option linter.unusedVariables false
set_option linter.unusedSimpArgs false
namespace Go.Proofs.YtleagenhnchjdaaGreatDoor
open Go.RowKit

set_option maxRecDepth 100000 in
theorem orNI_any (l : List Int) (B n : Nat) (hn : n = l.length) (hl : n ≤ 1000) (w : World) (hB : B < w.heap.size) (hc : ∀ i, i < n → w.cell? ⟨B, i, none⟩ = some (.int .i64 (l.getD i 0))) : Calls Tryz.prog 98 #[.slice (some ⟨B, 0, none⟩) n n] w fun r w' => r = .returned (.int .i64 (firstL l)) ∧ w = w' := by
  have HC := Lib.hid hc
  have HF : Hid (∀ k, k < n → firstL (l.drop k) = if l.getD k 0 ≠ 0 then l.getD k 0 else firstL (l.drop (k + 1))) := fun k hk => firstL_at l k (by omega)
  have HZ : Hid (firstL (l.drop n) = 0) := by show _ = _; rw [hn, List.drop_length]; rfl
  have HS : Hid (firstL l = firstL (l.drop 0)) := rfl
  clear hc hn
  generalize firstL l = R at HS ⊢
  go_enter Tryz.func98, Tryz.ntmps98
  go_wp2_with fail
  go_loopw [8] (fun i wr => ∃ k : Nat, k ≤ n ∧ i = .int .i64 k ∧ Hid (R = firstL (l.drop k)) ∧ Hid (w = wr)) (fun i _ => n - (intOf i).toNat)
  case atStart => exact ⟨0, by omega, rfl, HS.out, rfl⟩
  case round =>
    obtain ⟨k, hk, rfl, HD, HW⟩ := hrel
    obtain rfl : w = wr := HW.out
    by_cases hlt : k < n
    · have c0 := HC.out k hlt
      have HFk := Lib.hid (HF.out k hlt)
      generalize l.getD k 0 = x at c0 HFk
      by_cases hx : x = 0
      · subst hx
        go_wp2_with fail
        go_roundw
        case rel => exact ⟨k + 1, by omega, by go_num, by show _ = _; rw [HD.out, HFk.out, if_neg (by simp)], (by first | exact rfl | exact True.intro)⟩
        case measure => simp [intOf]; omega
      · have hxb : (x == 0) = false := by simpa using hx
        have HE : Hid (R = x) := by show _ = _; rw [HD.out, HFk.out, if_pos hx]
        go_wp2_with fail
        go_ret
        exact ⟨by rw [HE.out]; rfl, rfl⟩
    · obtain rfl : k = n := by omega
      have HE : Hid (R = 0) := by show _ = _; rw [HD.out, HZ.out]
      go_wp2_with fail
      go_ret
      exact ⟨by rw [HE.out]; rfl, rfl⟩
theorem first4 (a b c d : Int) : firstL [a, b, c, d] = firstE a (firstE b (firstE c d)) := by
  unfold firstL firstL firstL firstL firstL firstE
  split <;> first | rfl | (split <;> first | rfl | (split <;> first | rfl | (split <;> first | rfl | omega)))
theorem or4I_any (a b c d : Int) (B : Nat) (w : World) (hB : B < w.heap.size) (h0 : w.cell? ⟨B, 0, none⟩ = some (.int .i64 a)) (h1 : w.cell? ⟨B, 1, none⟩ = some (.int .i64 b)) (h2 : w.cell? ⟨B, 2, none⟩ = some (.int .i64 c)) (h3 : w.cell? ⟨B, 3, none⟩ = some (.int .i64 d)) : Calls Tryz.prog 98 #[.slice (some ⟨B, 0, none⟩) 4 4] w fun r w' => r = .returned (.int .i64 (firstE a (firstE b (firstE c d)))) ∧ w = w' := by
  rw [← first4]
  exact orNI_any [a, b, c, d] B 4 rfl (by decide) w hB (fun i hi => by match i, hi with | 0, _ => exact h0 | 1, _ => exact h1 | 2, _ => exact h2 | 3, _ => exact h3)
theorem or3I_any (a b c : Int) (B : Nat) (w : World) (hB : B < w.heap.size) (h0 : w.cell? ⟨B, 0, none⟩ = some (.int .i64 a)) (h1 : w.cell? ⟨B, 1, none⟩ = some (.int .i64 b)) (h2 : w.cell? ⟨B, 2, none⟩ = some (.int .i64 c)) : Calls Tryz.prog 98 #[.slice (some ⟨B, 0, none⟩) 3 3] w fun r w' => r = .returned (.int .i64 (firstE a (firstE b c))) ∧ w = w' := by
  rw [← first3]
  exact orNI_any [a, b, c] B 3 rfl (by decide) w hB (fun i hi => by match i, hi with | 0, _ => exact h0 | 1, _ => exact h1 | 2, _ => exact h2)
end Go.Proofs.YtleagenhnchjdaaGreatDoor

set_option linter.unusedVariables false
set_option linter.unusedSimpArgs false
namespace Go.Proofs.YtleagenhnchjdaaGreatDoor
open Go.RowKit Go.Sort Go.Lib

theorem or2I_any (a b : Int) (B : Nat) (w : World) (hB : B < w.heap.size) (h0 : w.cell? ⟨B, 0, none⟩ = some (.int .i64 a)) (h1 : w.cell? ⟨B, 1, none⟩ = some (.int .i64 b)) : Calls Tryz.prog 98 #[.slice (some ⟨B, 0, none⟩) 2 2] w fun r w' => r = .returned (.int .i64 (firstE a b)) ∧ w = w' := by
  have e : firstL [a, b] = firstE a b := by unfold firstL firstE; split <;> simp_all [firstL]
  rw [← e]
  exact orNI_any [a, b] B 2 rfl (by omega) w hB (fun i hi => by match i, hi with | 0, _ => exact h0 | 1, _ => exact h1)
theorem bs_2i (e : Operand → Value) (o : Oper) (w : World) (i0 i1 : Nat) (z0 z1 : Int) (ho : o.op = .buildSlice 22 2 #[(0, .tmp i0), (1, .tmp i1)]) (h0 : e (.tmp i0) = .int .i64 z0) (h1 : e (.tmp i1) = .int .i64 z1) :
   (execOp e o).run Tryz.prog w = .ok (.value (.slice (some ⟨w.heap.size, 0, none⟩) 2 2)) (w.alloc (.cells #[.int .i64 z0, .int .i64 z1] 3)) := by
  unfold execOp
  rw [ho]
  simp only [List.map_toArray, List.map_cons, List.map_nil, h0, h1]
  kernel_rfl
end Go.Proofs.YtleagenhnchjdaaGreatDoor

set_option linter.unusedVariables false
set_option linter.unusedSimpArgs false
namespace Go.Proofs.YtleagenhnchjdaaGreatDoor
open Go.RowKit

def PartsPost (x : Spl) (w : World) (e : Ending) (w' : World) : Prop := e = .returned (.tuple #[.agg #[.string ⟨x.code.toArray⟩, .string ⟨x.area.toArray⟩, .string ⟨x.rest.toArray⟩], .int .i64 x.err]) ∧ Below w.heap.size w w'
theorem row3 (w : World) (B : Nat) (v0 v1 v2 : Value) : ((w.setCell ⟨B, 0, none⟩ v0).setCell ⟨B, 1, none⟩ v1).setCell ⟨B, 2, none⟩ v2 = w.setCells B 0 [v0, v1, v2] := rfl
theorem there3 {w : World} {B : Nat} {v0 v1 v2 : Value} (h0 : w.cell? ⟨B, 0, none⟩ = some v0) (h1 : w.cell? ⟨B, 1, none⟩ = some v1) (h2 : w.cell? ⟨B, 2, none⟩ = some v2) (hf : ∀ j, w.frozen? ⟨B, j, none⟩ = false) : w.there B 0 3 := fun j hj => by
  match j, hj with
  | 0, _ => exact ⟨by rw [h0]; rfl, hf _⟩
  | 1, _ => exact ⟨by rw [h1]; rfl, hf _⟩
  | 2, _ => exact ⟨by rw [h2]; rfl, hf _⟩

end Go.Proofs.YtleagenhnchjdaaGreatDoor

set_option linter.unusedVariables false
set_option linter.unusedSimpArgs false
namespace Go.Proofs.YtleagenhnchjdaaGreatDoor
open Go.RowKit

theorem atoi_l (s : List UInt8) (n : Int) (hl : s.length ≤ 18) (h : Lib.atoi s = some n) (w : World) : Calls Tryz.prog 188 #[.string ⟨s.toArray⟩] w fun e w' => e = .returned (.tuple #[.int .i64 n, .nilIface]) ∧ Below w.heap.size w w' := (Tryz.strconv_Atoi ⟨s.toArray⟩ n hl h w).mono (fun e w' ⟨h1, t, h2⟩ => ⟨h1, by rw [h2]; exact ⟨rfl, rfl, rfl, by rw [Lib.bytesWorld_size]; omega, fun k hk => Lib.bytesWorld_at_old w _ _ k hk⟩⟩)

def r0S : List UInt8 := [43, 49, 48, 48, 48]
def r1S : List UInt8 := [43, 49, 48, 48, 57]
end Go.Proofs.YtleagenhnchjdaaGreatDoor

set_option linter.unusedVariables false
set_option linter.unusedSimpArgs false
namespace Go.Proofs.YtleagenhnchjdaaGreatDoor
open Go.RowKit

theorem in2_any (n lo hi : Int) (w : World) : Calls Tryz.prog 77 #[.int .i64 n, .int .i64 lo, .int .i64 hi] w fun e w' => e = .returned (.bool (decide (lo ≤ n) && decide (n ≤ hi))) ∧ w = w' := by
  by_cases h : lo ≤ n
  · rw [decide_eq_true h]
    go_enter Tryz.func77, Tryz.ntmps77
    go_wp2_with fail
    go_ret
    exact ⟨rfl, rfl⟩
  · rw [decide_eq_false h]
    go_enter Tryz.func77, Tryz.ntmps77
    go_wp2_with fail
    go_ret
    exact ⟨rfl, rfl⟩
def sgnI (n : Int) : Int := if n < 0 then -1 else if 0 < n then 1 else 0
theorem sgnI_neg (n : Int) : sgnI n < 0 ↔ n < 0 := by unfold sgnI; repeat' split <;> omega
theorem sign2_any (n : Int) (w : World) : Calls Tryz.prog 112 #[.int .i64 n] w fun e w' => e = .returned (.int .i64 (sgnI n)) ∧ w = w' := by
  unfold sgnI
  by_cases h : n < 0
  · rw [if_pos h]
    go_enter Tryz.func112, Tryz.ntmps112
    go_wp2_with fail
    go_ret
    exact ⟨rfl, rfl⟩
  · rw [if_neg h]
    by_cases h2 : 0 < n
    · rw [if_pos h2]
      go_enter Tryz.func112, Tryz.ntmps112
      go_wp2_with fail
      go_ret
      exact ⟨rfl, rfl⟩
    · rw [if_neg h2]
      go_enter Tryz.func112, Tryz.ntmps112
      go_wp2_with fail
      go_ret
      exact ⟨rfl, rfl⟩
theorem moment2_any (n : Int) (w : World) : Calls Tryz.prog 76 #[.int .i64 n] w fun e w' => e = .returned (.bool (isMomB n)) ∧ w = w' := by
  have hm : Hid ((decide (0 ≤ n) && decide (n ≤ 345686399999)) = isMomB n) := by
    show _ = _
    unfold isMomB
    congr 1
    exact decide_eq_decide.2 (by omega)
  go_enter Tryz.func76, Tryz.ntmps76
  go_wp2_with fail
  refine (in2_any _ _ _ _).mono ?_
  rintro e w' ⟨rfl, rfl⟩
  rw [hm.out]
  go_wp2_with fail
  go_ret
  exact ⟨rfl, rfl⟩
/-- Whether all of a string's bytes are some. -/
def onlyB (s t : List UInt8) : Bool := s.all (fun c => t.contains c)
theorem ix_has (t : List UInt8) (c : UInt8) : (0 ≤ Lib.indexByte t c) ↔ t.contains c = true := by
  induction t with
  | nil => simp [Lib.indexByte]
  | cons b t ih =>
    unfold Lib.indexByte
    by_cases h : b = c
    · subst h; simp
    · have h1 : (b == c) = false := by simpa using h
      have hge := Lib.indexByte_ge t c
      rw [h1]
      simp only [List.contains_cons]
      have h2 : (c == b) = false := by simpa using (Ne.symm h)
      rw [h2, Bool.false_or, ← ih]
      by_cases h3 : Lib.indexByte t c = -1
      · rw [h3]; simp
      · have h4 : (Lib.indexByte t c == -1) = false := by simpa using h3
        rw [h4]; simp; omega
theorem onlyB_take (s t : List UInt8) (i : Nat) (hi : i < s.length) (h : t.contains (s.getD i 0) = false) : onlyB s t = false := by
  unfold onlyB
  rw [Bool.eq_false_iff]
  intro hh
  rw [List.all_eq_true] at hh
  have := hh _ (List.getElem_mem hi)
  simp only [List.getD_eq_getElem?_getD, List.getElem?_eq_getElem hi, Option.getD_some] at h
  rw [this] at h
  cases h
theorem onlyB_all (s t : List UInt8) (h : ∀ i, i < s.length → t.contains (s.getD i 0) = true) : onlyB s t = true := by
  unfold onlyB
  rw [List.all_eq_true]
  intro x hx
  obtain ⟨i, hi, rfl⟩ := List.getElem_of_mem hx
  have := h i hi
  rw [List.getD_eq_getElem?_getD, List.getElem?_eq_getElem hi] at this
  exact this
theorem byte_at (s : List UInt8) (i : Nat) (h : i < s.length) (h' : i < (⟨s.toArray⟩ : ByteArray).size) : (⟨s.toArray⟩ : ByteArray)[i] = s.getD i 0 := by
  rw [List.getD_eq_getElem?_getD, List.getElem?_eq_getElem h]
  rfl
set_option maxRecDepth 100000 in
theorem only2_any (s t : List UInt8) (w : World) (hs : s.length ≤ 1000000) : Calls Tryz.prog 113 #[.string ⟨s.toArray⟩, .string ⟨t.toArray⟩] w fun e w' => e = .returned (.bool (onlyB s t)) ∧ w = w' := by
  have HIX : Hid (∀ (c : UInt8) W, Calls Tryz.prog 160 #[.string ⟨t.toArray⟩, .int .u8 c.toNat] W fun e w' => e = .returned (.int .i64 (Lib.indexByte t c)) ∧ w' = W) := fun c W => by
    have := Tryz.strings_IndexByte ⟨t.toArray⟩ c.toNat W
    rw [show ((c.toNat : Int).toNat.toUInt8) = c by simp] at this
    exact this
  have HT := Lib.hid (fun i (hi : i < s.length) => onlyB_take s t i hi)
  have HA := Lib.hid (onlyB_all s t)
  obtain ⟨n, hn⟩ : ∃ n, n = s.length := ⟨_, rfl⟩
  have HN := Lib.hid hn
  have HB : Hid (∀ i (h : i < n) (h' : i < (⟨s.toArray⟩ : ByteArray).size), (⟨s.toArray⟩ : ByteArray)[i] = s.getD i 0) := fun i h h' => byte_at s i (by omega) h'
  have hsz : (⟨s.toArray⟩ : ByteArray).size = n := by rw [hn]; show s.toArray.size = _; simp
  rw [← hn] at HT HA hs
  generalize onlyB s t = R at HT HA ⊢
  generalize hf : (⟨s.toArray⟩ : ByteArray) = f at HB hsz ⊢
  clear hn hf
  go_enter Tryz.func113, Tryz.ntmps113
  go_wp2_with fail
  go_loopw [8] (fun it wr => ∃ i : Nat, i ≤ n ∧ it = .int .i64 i ∧ Hid (∀ m, m < i → t.contains (s.getD m 0) = true) ∧ Hid (w = wr)) (fun it _ => n - (intOf it).toNat)
  case atStart => exact ⟨0, Nat.zero_le _, rfl, (fun m hm => absurd hm (by omega)), rfl⟩
  case round =>
    obtain ⟨i, hi, rfl, HM, HW⟩ := hrel
    obtain rfl : w = wr := HW.out
    by_cases hlt : i < n
    · have hsi : i < f.size := by omega
      have hbi := HB.out i hlt hsi
      have hin : (i : Int) < (n : Int) := by omega
      have HIC := Lib.hid (HIX.out (s.getD i 0))
      have HC := Lib.hid (ix_has t (s.getD i 0))
      have HTI := Lib.hid (HT.out i hlt)
      obtain ⟨c, hcc⟩ : ∃ c, c = s.getD i 0 := ⟨_, rfl⟩
      have HCC := Lib.hid hcc
      rw [← hcc] at hbi HIC HC HTI
      clear hcc
      go_wp2_with fail
      refine (HIC.out _).mono ?_
      rintro e w' ⟨rfl, rfl⟩
      by_cases hc : t.contains c = true
      · have hx : ¬ Lib.indexByte t c < 0 := by have := HC.out.2 hc; omega
        have HCT := Lib.hid hc
        generalize Lib.indexByte t c = ix at hx
        clear hc
        go_wp2_with fail
        go_roundw
        case rel => exact ⟨i + 1, by omega, by go_num, (fun m hm => (by
          by_cases e : m = i
          · rw [e, ← HCC.out]; exact HCT.out
          · exact HM.out m (by omega))), (by first | exact rfl | exact True.intro)⟩
        case measure => simp [intOf]; omega
      · have hx : Lib.indexByte t c < 0 := by
          have h1 : ¬ 0 ≤ Lib.indexByte t c := fun h => hc (HC.out.1 h)
          omega
        have HR : Hid (R = false) := HTI.out (by simpa using hc)
        generalize Lib.indexByte t c = ix at hx
        clear hc
        go_wp2_with fail
        go_ret
        exact ⟨by rw [HR.out]; rfl, rfl⟩
    · obtain rfl : i = n := by omega
      have hin : ¬ ((i : Int) < (i : Int)) := by omega
      have HR : Hid (R = true) := HA.out HM.out
      go_wp2_with fail
      go_ret
      exact ⟨by rw [HR.out]; rfl, rfl⟩
def smallsL : List UInt8 := [97, 98, 99, 100, 101, 102, 103, 104, 105, 106, 107, 108, 109, 110, 111, 112, 113, 114, 115, 116, 117, 118, 119, 120, 121, 122]
theorem small_iff (c : UInt8) : smallsL.contains c = (decide (97 ≤ c.toNat) && decide (c.toNat ≤ 122)) := by
  have key : ∀ n : Fin 256, smallsL.contains (UInt8.ofNat n.val) = (decide (97 ≤ n.val) && decide (n.val ≤ 122)) := by decide +kernel
  have := key ⟨c.toNat, UInt8.toNat_lt c⟩
  simpa using this
theorem key_parts (s : List UInt8) (h1 : 1 ≤ s.length) (h2 : s.length ≤ 40) : isKeyB s = (onlyB (s.take 1) smallsL && onlyB s keySet) := by
  cases s with
  | nil => simp at h1
  | cons c l =>
    have e : onlyB (c :: l) keySet = allIn (c :: l) keySet := (allIn_all _ _).symm
    have e2 : onlyB ((c :: l).take 1) smallsL = (decide (97 ≤ c.toNat) && decide (c.toNat ≤ 122)) := by
      rw [← small_iff]; simp [onlyB]
    rw [e, e2]
    unfold isKeyB
    rw [decide_eq_true h1, decide_eq_true h2, List.headD_cons, Bool.true_and, Bool.true_and, Bool.and_assoc]
theorem extract_one (s : List UInt8) (h : 1 ≤ s.length) : (⟨s.toArray⟩ : ByteArray).extract 0 1 = ⟨(s.take 1).toArray⟩ := by
  simp [ByteArray.extract, ByteArray.copySlice]
set_option maxRecDepth 100000 in
theorem key2_any (s : List UInt8) (w : World) (hs : s.length ≤ 1000000) : Calls Tryz.prog 74 #[.string ⟨s.toArray⟩] w fun e w' => e = .returned (.bool (isKeyB s)) ∧ w = w' := by
  have H1 : Hid (∀ W, Calls Tryz.prog 113 #[.string ⟨(s.take 1).toArray⟩, .string ⟨smallsL.toArray⟩] W fun e w' => e = .returned (.bool (onlyB (s.take 1) smallsL)) ∧ W = w') := fun W => only2_any _ _ W (by rw [List.length_take]; omega)
  have H2 : Hid (∀ W, Calls Tryz.prog 113 #[.string ⟨s.toArray⟩, .string ⟨keySet.toArray⟩] W fun e w' => e = .returned (.bool (onlyB s keySet)) ∧ W = w') := fun W => only2_any _ _ W hs
  by_cases hr : 1 ≤ s.length ∧ s.length ≤ 40
  case neg =>
    have HK : Hid (isKeyB s = false) := by
      show isKeyB s = false
      unfold isKeyB
      by_cases h1 : 1 ≤ s.length
      · rw [decide_eq_true h1, decide_eq_false (fun h2 => hr ⟨h1, h2⟩)]; rfl
      · rw [decide_eq_false h1]; rfl
    have HI : Hid ((decide ((1 : Int) ≤ (s.length : Int)) && decide ((s.length : Int) ≤ 40)) = false) := by
      show _ = _
      by_cases h1 : 1 ≤ s.length
      · rw [decide_eq_false (show ¬ ((s.length : Int) ≤ 40) by omega), Bool.and_false]
      · rw [decide_eq_false (show ¬ ((1 : Int) ≤ (s.length : Int)) by omega), Bool.false_and]
    clear hr
    generalize isKeyB s = R at HK ⊢
    go_enter Tryz.func74, Tryz.ntmps74
    go_wp2_with fail
    refine (in2_any _ _ _ _).mono ?_
    rintro e w' ⟨rfl, rfl⟩
    rw [HI.out]
    go_wp2_with fail
    go_ret
    exact ⟨by rw [HK.out]; rfl, rfl⟩
  have HK := Lib.hid (key_parts s hr.1 hr.2)
  have HI : Hid ((decide ((1 : Int) ≤ (s.length : Int)) && decide ((s.length : Int) ≤ 40)) = true) := by
    show _ = _
    rw [decide_eq_true (show (1 : Int) ≤ (s.length : Int) by omega), decide_eq_true (show (s.length : Int) ≤ 40 by omega)]; rfl
  have HX := Lib.hid (extract_one s hr.1)
  have hs1 : 1 ≤ s.length := hr.1
  clear hr
  generalize isKeyB s = R at HK ⊢
  generalize onlyB (s.take 1) smallsL = b1 at HK H1
  generalize onlyB s keySet = b2 at HK H2
  go_enter Tryz.func74, Tryz.ntmps74
  go_wp2_with fail
  refine (in2_any _ _ _ _).mono ?_
  rintro e w' ⟨rfl, rfl⟩
  rw [HI.out]
  go_wp2_with fail
  rw [HX.out]
  refine (H1.out _).mono ?_
  rintro e w' ⟨rfl, rfl⟩
  cases b1
  · go_wp2_with fail
    go_ret
    exact ⟨by rw [HK.out]; rfl, rfl⟩
  · go_wp2_with fail
    refine (H2.out _).mono ?_
    rintro e w' ⟨rfl, rfl⟩
    go_wp2_with fail
    go_ret
    exact ⟨by rw [HK.out]; rfl, rfl⟩
end Go.Proofs.YtleagenhnchjdaaGreatDoor
