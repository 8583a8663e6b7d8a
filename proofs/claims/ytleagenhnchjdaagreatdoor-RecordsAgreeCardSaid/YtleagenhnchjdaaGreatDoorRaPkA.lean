/- What is proved here: lemmas and contracts for the statement, put together out of smaller texts (Base, Blk, GbBase, Number, Strs, PlanMath, SplitMath, RegionLast, RegionSeq, PlanCheck, PlanCtry, PlanAll, ResCell, SplitWalk, NumMath, FormMath, WayMath, SlipMath). No condition beyond those stated. -/
import Derived.Test.YtleagenhnchjdaaGreatDoorProg
import Derived.WalkKit
import Derived.WalkLawsBesides
import Derived.WalkSpells
import Derived.Deep.QuietTactic
import Derived.BigQuiet
import Derived.RegionTactic
import Derived.Lib.Hide
import Derived.Deep.MidRow
import Derived.Laws.AppendOwn
import Derived.Maps.AppendAt
import Derived.Test.YtleagenhnchjdaaGreatDoorShelf
import Derived.Lib.Bytealg
import GoSem.Op.String
import Derived.Lib.SlBy
import Derived.Deep.RegionHeld3
import Derived.Test.YtleagenhnchjdaaGreatDoorShelfNum
import Derived.BigRegion
import Derived.IntWalk
import Derived.Deep.DeepCutAuto
import Derived.Shelf.SlicesQ.Load
import Derived.Lib.SlicesCompact
import Derived.Sort.KeysCollected
namespace Go.Proofs.YtleagenhnchjdaaGreatDoor
open Go.RowKit

/-- The blocks of w stay, but for block S; nothing outside has turned. -/
structure Keeps (S : Nat) (w w' : World) : Prop where
  os : w'.os = w.os
  tape : w'.tape = w.tape
  output : w'.output = w.output
  size : w.heap.size ≤ w'.heap.size
  block : ∀ k, k < w.heap.size → k ≠ S → w'.heap[k]? = w.heap[k]?

theorem Keeps.ext {S : Nat} {a w w' : World} (h : Keeps S a w) (b : Below w.heap.size w w') : Keeps S a w' :=
  ⟨b.os.trans h.os, b.tape.trans h.tape, b.output.trans h.output, Nat.le_trans h.size b.size, fun k hk hn => (b.block k (Nat.lt_of_lt_of_le hk h.size)).trans (h.block k hk hn)⟩
theorem Keeps.refl (S : Nat) (w : World) : Keeps S w w := ⟨rfl, rfl, rfl, Nat.le_refl _, fun _ _ _ => rfl⟩
theorem Keeps.trans {S : Nat} {a b c : World} (h : Keeps S a b) (k : Keeps S b c) : Keeps S a c :=
  ⟨k.os.trans h.os, k.tape.trans h.tape, k.output.trans h.output, Nat.le_trans h.size k.size, fun i hi hn => (k.block i (Nat.lt_of_lt_of_le hi h.size) hn).trans (h.block i hi hn)⟩
theorem Keeps.of_below {S : Nat} {w w' : World} (h : Below w.heap.size w w') : Keeps S w w' := ⟨h.os, h.tape, h.output, h.size, fun k hk _ => h.block k hk⟩
theorem Keeps.below {S B : Nat} {w w' : World} (h : Keeps S w w') (hB : B ≤ w.heap.size) (hS : B ≤ S) : Below B w w' :=
  ⟨h.os, h.tape, h.output, h.size, fun k hk => h.block k (by omega) (by omega)⟩
theorem Keeps.cell {S : Nat} {w w' : World} (h : Keeps S w w') {p : Addr} (hp : p.block < w.heap.size) (hn : p.block ≠ S) : w'.cell? p = w.cell? p := World.cell?_of_block (w := w) (h.block p.block hp hn)
theorem Keeps.frozen {S : Nat} {w w' : World} (h : Keeps S w w') {p : Addr} (hp : p.block < w.heap.size) (hn : p.block ≠ S) : w'.frozen? p = w.frozen? p := World.frozen?_of_block (w := w) (h.block p.block hp hn)
theorem Keeps.drew {S : Nat} {a w : World} (h : Keeps S a w) : Keeps S a w.drew := ⟨h.os, h.tape, h.output, h.size, h.block⟩
theorem Keeps.drewN {S : Nat} {a w : World} (h : Keeps S a w) (n : Nat) : Keeps S a (w.drewN n) := ⟨h.os, h.tape, h.output, h.size, h.block⟩
theorem Keeps.alloc {S : Nat} {a w : World} (h : Keeps S a w) (o : Obj) : Keeps S a (w.alloc o) :=
  h.trans ⟨rfl, rfl, rfl, by simp, fun k hk _ => Below.heap_alloc _ _ _ hk⟩
theorem Keeps.setCell {S : Nat} {a w : World} (h : Keeps S a w) {p : Addr} (hp : p.block = S) (u : Value) : Keeps S a (w.setCell p u) :=
  h.trans ⟨rfl, rfl, rfl, by simp, fun k hk hn => Below.heap_setCell _ _ _ _ (by omega)⟩
theorem Keeps.setCell_new {S : Nat} {a w : World} (h : Keeps S a w) {p : Addr} (hp : a.heap.size ≤ p.block) (u : Value) : Keeps S a (w.setCell p u) :=
  ⟨h.os, h.tape, h.output, by simpa using h.size, fun k hk hn => (Below.heap_setCell _ _ _ _ (by omega)).trans (h.block k hk hn)⟩

/-- A slice of integers: empty, or a row of cells in a block below S. -/
def IntRow (w : World) (S : Nat) (a : Option Addr) (len cap : Nat) (zs : List Int) : Prop :=
  len = 0 ∨
  ∃ b off, a = some ⟨b, off, none⟩ ∧ b < S ∧ len ≤ cap ∧ cap ≤ maxLen ∧ len ≤ zs.length ∧ (∀ i, i < len → w.cell? ⟨b, off + i, none⟩ = some (.int .i64 (zs.getD i 0)))

theorem IntRow.kept {w w' : World} {S : Nat} {a : Option Addr} {len cap : Nat} {zs : List Int} (h : IntRow w S a len cap zs) (k : Below S w w') : IntRow w' S a len cap zs := by
  rcases h with h | ⟨b, off, ha, hb, h1, h2, h3, hc⟩
  · exact Or.inl h
  · exact Or.inr ⟨b, off, ha, hb, h1, h2, h3, fun i hi => (k.cell (p := ⟨b, off + i, none⟩) hb).trans (hc i hi)⟩

/-- Block S is a stream that has handed out at most k numbers. -/
def StreamOk (w : World) (S k : Nat) : Prop :=
  ∃ (a : Option Addr) (len cap : Nat) (zs : List Int) (n : Nat), n ≤ k ∧ S < w.heap.size ∧ w.cell? ⟨S, 0, none⟩ = some (.slice a len cap) ∧ w.cell? ⟨S, 1, none⟩ = some (.int .i64 n) ∧ w.frozen? ⟨S, 1, none⟩ = false ∧ IntRow w S a len cap zs

theorem StreamOk.mono {w : World} {S k k' : Nat} (h : StreamOk w S k) (hk : k ≤ k') : StreamOk w S k' := by
  obtain ⟨a, len, cap, zs, n, hn, r⟩ := h
  exact ⟨a, len, cap, zs, n, by omega, r⟩
theorem StreamOk.lt {w : World} {S k : Nat} (h : StreamOk w S k) : S < w.heap.size := by
  obtain ⟨a, len, cap, zs, n, hn, r, _⟩ := h
  exact r
theorem StreamOk.upto {w w' : World} {S k : Nat} (h : StreamOk w S k) (b : Below (S + 1) w w') : StreamOk w' S k := by
  obtain ⟨a, len, cap, zs, n, hn, hs, h0, h1, hf, hr⟩ := h
  exact ⟨a, len, cap, zs, n, hn, Nat.lt_of_lt_of_le hs b.size, (b.cell (p := ⟨S, 0, none⟩) (Nat.lt_succ_self _)).trans h0, (b.cell (p := ⟨S, 1, none⟩) (Nat.lt_succ_self _)).trans h1, (b.frozen (p := ⟨S, 1, none⟩) (Nat.lt_succ_self _)).trans hf, hr.kept (b.mono (Nat.le_succ _))⟩
theorem StreamOk.below {w w' : World} {S k : Nat} (h : StreamOk w S k) (b : Below w.heap.size w w') : StreamOk w' S k := h.upto (b.mono h.lt)

/-- Below S, and S itself, through an append to a row of the call's own. -/
theorem upto_grown {S : Nat} {w w' : World} {o : Obj} {row : Option Nat} (hg : (w.alloc o).grownBy w' row) (hS : S ≤ w.heap.size) (hr : ∀ b, row = some b → S ≤ b) : Below S w w' :=
  ((Below.refl S w).alloc hS o).grown hg (by simp; omega) hr
theorem Keeps.grown {S : Nat} {a w w' : World} {o : Obj} {row : Option Nat} (h : Keeps S a w) (hg : (w.alloc o).grownBy w' row) (hr : ∀ b, row = some b → a.heap.size ≤ b) : Keeps S a w' :=
  ⟨hg.os.trans h.os, hg.tape.trans h.tape, hg.output.trans h.output, Nat.le_trans h.size (by have := hg.size; simp at this; omega), fun k hk hn => ((hg.block k (by simp; have := h.size; omega) (fun e => by have := hr k e.symm; omega)).trans (Below.heap_alloc _ _ _ (Nat.lt_of_lt_of_le hk h.size))).trans (h.block k hk hn)⟩

/-- What a call of the stream's comes to: a number from 0 to n - 1. -/
def NextPost (S k : Nat) (lo hi : Int) (w : World) (e : Ending) (w' : World) : Prop :=
  ∃ r : Int, e = .returned (.int .i64 r) ∧ lo ≤ r ∧ r ≤ hi ∧ StreamOk w' S k ∧ Keeps S w w'

theorem ext_trans {a b c : World} (h : Below a.heap.size a b) (k : Below b.heap.size b c) : Below a.heap.size a c := h.trans (k.mono h.size)
theorem ext_alloc {a w : World} {o : Obj} (h : Below a.heap.size a w) : Below a.heap.size a (w.alloc o) := h.alloc h.size o
theorem ext_drew {a w : World} (h : Below a.heap.size a w) : Below a.heap.size a w.drew := h.drew
theorem ext_drewN {a w : World} {n : Nat} (h : Below a.heap.size a w) : Below a.heap.size a (w.drewN n) := ⟨h.os, h.tape, h.output, h.size, h.block⟩
theorem ext_setCell {a w : World} {p : Addr} {u : Value} (h : Below a.heap.size a w) (hp : a.heap.size ≤ p.block) : Below a.heap.size a (w.setCell p u) := h.setCell hp u

theorem bcell {W w1 : World} (hb : Below W.heap.size W w1) : (∀ b o, b < W.heap.size → w1.cell? ⟨b, o, none⟩ = W.cell? ⟨b, o, none⟩) ∧ (∀ b o, b < W.heap.size → w1.frozen? ⟨b, o, none⟩ = W.frozen? ⟨b, o, none⟩) :=
  ⟨fun b o h => hb.cell (p := ⟨b, o, none⟩) h, fun b o h => hb.frozen (p := ⟨b, o, none⟩) h⟩

theorem below_of_grown_none {X w1 : World} (h : X.grownBy w1 none) : Below X.heap.size X w1 := (Below.refl _ X).grown h (Nat.le_refl _) (by intro k hk; cases hk)
theorem kept_of_grown {X w1 : World} {g : Nat} (h : X.grownBy w1 (some g)) : (∀ b o, b < X.heap.size → b ≠ g → w1.cell? ⟨b, o, none⟩ = X.cell? ⟨b, o, none⟩) ∧ (∀ b o, b < X.heap.size → b ≠ g → w1.frozen? ⟨b, o, none⟩ = X.frozen? ⟨b, o, none⟩) :=
  ⟨fun b o hb hn => World.cell?_of_block (w := X) (a := ⟨b, o, none⟩) (h.block b hb (by intro e; cases e; exact hn rfl)), fun b o hb hn => World.frozen?_of_block (w := X) (a := ⟨b, o, none⟩) (h.block b hb (by intro e; cases e; exact hn rfl))⟩

theorem _root_.Go.World.ownsRow.kept_below {w w' : World} {base : Nat} {e : TypeId} {size : Nat} {v : Value} {n : Nat} {xs : List Value} (h : w.ownsRow base e size v n xs) (hb : Below w.heap.size w w') : w'.ownsRow base e size v n xs :=
  h.kept (row := none) ⟨hb.os, hb.tape, hb.output, hb.size, fun k hk _ => hb.block k hk⟩ (by cases v.ownBlock <;> simp)

/-- A row of the call's own, from a block behind S on, stays where only S is written. -/
theorem own_keeps {S : Nat} {w w' : World} {base : Nat} {e : TypeId} {size : Nat} {v : Value} {n : Nat} {xs : List Value} (h : w.ownsRow base e size v n xs) (k : Keeps S w w') (hS : S < base) : w'.ownsRow base e size v n xs :=
  h.kept (row := some S) ⟨k.os, k.tape, k.output, k.size, fun b hb hn => k.block b hb (fun e => hn (by rw [e]))⟩ (by
    cases hv : v.ownBlock with
    | none => exact Or.inl rfl
    | some g => exact Or.inr (by have := (h.lt g hv).1; simp; omega))

theorem news_one {w : World} {ad : Addr} {x : Value} (h : w.cell? ad = some x) : ∀ (j : Nat) u, ([x] : List Value)[j]? = some u → w.cell? (ad.add j) = some u := by
  intro j u hj
  cases j with
  | zero => simp at hj; subst hj; simpa [Addr.add] using h
  | succ j => simp at hj

theorem ret_int {k : IntKind} {a b : Int} (h : a = b) : Ending.returned (.int k a) = .returned (.int k b) := by rw [h]

end Go.Proofs.YtleagenhnchjdaaGreatDoor

set_option linter.unusedVariables false
set_option linter.unusedSimpArgs false
namespace Go.Proofs.YtleagenhnchjdaaGreatDoor
open Go.RowKit

/-- Block B holds just these cells. -/
structure Blk (w : World) (B : Nat) (cs : List Value) (ty : TypeId) : Prop where
  at_ : w.heap[B]? = some (.cells cs.toArray ty (0, 0))
theorem Blk.lt {w : World} {B : Nat} {cs : List Value} {ty : TypeId} (h : Blk w B cs ty) : B < w.heap.size := (Array.getElem?_eq_some_iff.1 h.at_).1
theorem Blk.cell {w : World} {B : Nat} {cs : List Value} {ty : TypeId} (h : Blk w B cs ty) (i : Nat) {v : Value} (hv : cs[i]? = some v) : w.cell? ⟨B, i, none⟩ = some v := by
  simp [World.cell?, h.at_, hv]
theorem Blk.fr {w : World} {B : Nat} {cs : List Value} {ty : TypeId} (h : Blk w B cs ty) (j : Nat) : w.frozen? ⟨B, j, none⟩ = false := by
  simp [World.frozen?, h.at_]
theorem Blk.same {w w' : World} {B : Nat} {cs : List Value} {ty : TypeId} (h : Blk w B cs ty) (hb : w'.heap[B]? = w.heap[B]?) : Blk w' B cs ty := ⟨hb.trans h.at_⟩
theorem Blk.keeps {S : Nat} {w w' : World} {B : Nat} {cs : List Value} {ty : TypeId} (h : Blk w B cs ty) (hk : Keeps S w w') (hn : B ≠ S) : Blk w' B cs ty := h.same (hk.block B h.lt hn)
theorem Blk.below {w w' : World} {B : Nat} {cs : List Value} {ty : TypeId} (h : Blk w B cs ty) (hb : Below w.heap.size w w') : Blk w' B cs ty := h.same (hb.block B h.lt)
theorem Blk.grown {w w' : World} {B : Nat} {cs : List Value} {ty : TypeId} {row : Option Nat} (h : Blk w B cs ty) (hg : w.grownBy w' row) (hn : row ≠ some B) : Blk w' B cs ty := h.same (hg.block B h.lt (fun e => hn e.symm))
theorem Blk.far {w : World} {B : Nat} {cs : List Value} {ty : TypeId} {p : Addr} {u : Value} (h : Blk w B cs ty) (hn : p.block ≠ B) : Blk (w.setCell p u) B cs ty := h.same (Below.heap_setCell _ _ _ _ (Ne.symm hn))
theorem Blk.alloc {w : World} {B : Nat} {cs : List Value} {ty : TypeId} (h : Blk w B cs ty) (o : Obj) : Blk (w.alloc o) B cs ty := h.same (Below.heap_alloc _ _ _ h.lt)
theorem Blk.new (w : World) (cs : List Value) (ty : TypeId) : Blk (w.alloc (.cells cs.toArray ty)) w.heap.size cs ty := ⟨by
  show (w.heap.push _)[w.heap.size]? = _
  simp⟩
theorem Blk.put {w : World} {B : Nat} {cs : List Value} {ty : TypeId} (h : Blk w B cs ty) (i : Nat) (u : Value) : Blk (w.setCell ⟨B, i, none⟩ u) B (cs.set i u) ty := ⟨by
  simp [World.setCell, Array.getElem?_modify, h.at_]⟩
theorem Blk.size {w : World} {B : Nat} {cs : List Value} {ty : TypeId} (h : Blk w B cs ty) : (w.cell? ⟨B, cs.length, none⟩) = none := by
  simp [World.cell?, h.at_]
theorem Blk.th {w : World} {B : Nat} {cs : List Value} {ty : TypeId} (h : Blk w B cs ty) (n : Nat) (hn : n ≤ cs.length) : w.there B 0 n := fun j hj => by
  refine ⟨?_, ?_⟩
  · simp [World.cell?, h.at_]; omega
  · simp [World.frozen?, h.at_]
end Go.Proofs.YtleagenhnchjdaaGreatDoor

set_option linter.unusedVariables false
set_option linter.unusedSimpArgs false
namespace Go.Proofs.YtleagenhnchjdaaGreatDoor
open Go.RowKit

theorem gb_of_below {w w' : World} {row : Option Nat} (h : Below w.heap.size w w') : w.grownBy w' row := ⟨h.os, h.tape, h.output, h.size, fun k hk _ => h.block k hk⟩
theorem gb_below {w w1 w2 : World} {row : Option Nat} (h : w.grownBy w1 row) (hb : Below w1.heap.size w1 w2) : w.grownBy w2 row :=
  ⟨hb.os.trans h.os, hb.tape.trans h.tape, hb.output.trans h.output, Nat.le_trans h.size hb.size, fun k hk hn => (hb.block k (Nat.lt_of_lt_of_le hk h.size)).trans (h.block k hk hn)⟩
theorem gb_trans {w w1 w2 : World} {row : Option Nat} (h : w.grownBy w1 row) (hb : w1.grownBy w2 row) : w.grownBy w2 row :=
  ⟨hb.os.trans h.os, hb.tape.trans h.tape, hb.output.trans h.output, Nat.le_trans h.size hb.size, fun k hk hn => (hb.block k (Nat.lt_of_lt_of_le hk h.size) hn).trans (h.block k hk hn)⟩
theorem gb_to_below {w w' : World} {row : Option Nat} {base : Nat} (h : w.grownBy w' row) (hb : base ≤ w.heap.size) (hr : ∀ b, row = some b → base ≤ b) : Below base w w' :=
  ⟨h.os, h.tape, h.output, h.size, fun k hk => h.block k (by omega) fun e => by have := hr k e.symm; omega⟩
theorem gb_alloc {w w' : World} {o : Obj} {row : Option Nat} (h : (w.alloc o).grownBy w' row) : w.grownBy w' row := gb_trans (gb_of_below (ext_alloc (Below.refl _ _))) h
theorem own_gb {w w' : World} {row : Option Nat} {base e size : Nat} {v : Value} {n : Nat} {xs : List Value} (h : w.ownsRow base e size v n xs) (hg : w.grownBy w' row) (hd : ∀ b, v.ownBlock = some b → row ≠ some b) : w'.ownsRow base e size v n xs := by
  refine ⟨h.1, h.2.imp id ?_⟩
  rintro ⟨g, cap, cur, rfl, h1, h2, h3⟩
  exact ⟨g, cap, cur, rfl, h1, (hg.block g (Array.getElem?_eq_some_iff.1 h2).1 (fun e => hd g rfl e.symm)).trans h2, h3⟩
/-- Rows of different elements lie in different blocks; a row is no box of another kind. -/
theorem own_types {w : World} {base base' e e' size size' : Nat} {v v' : Value} {n n' : Nat} {xs xs' : List Value} (h : w.ownsRow base e size v n xs) (h2 : w.ownsRow base' e' size' v' n' xs') (hne : e ≠ e') : ∀ b, v.ownBlock = some b → v'.ownBlock ≠ some b := by
  intro b hb hb'
  rcases h.2 with ⟨rfl, _⟩ | ⟨g, cap, cur, rfl, _, hg, _⟩
  · cases hb
  rcases h2.2 with ⟨rfl, _⟩ | ⟨g', cap', cur', rfl, _, hg', _⟩
  · cases hb'
  injection hb with hb
  injection hb' with hb'
  simp only at hb hb'
  subst hb; subst hb'
  rw [hg] at hg'
  injection hg' with hg'
  injection hg' with _ h9
  exact hne h9
theorem own_blk {w : World} {base e size : Nat} {v : Value} {n : Nat} {xs : List Value} (h : w.ownsRow base e size v n xs) {X : Nat} {cs : List Value} {ty : TypeId} (hX : Blk w X cs ty) (hne : e ≠ ty) : v.ownBlock ≠ some X := by
  intro hb
  rcases h.2 with ⟨rfl, _⟩ | ⟨g, cap, cur, rfl, _, hg, _⟩
  · cases hb
  injection hb with hb
  simp only at hb
  subst hb
  rw [hX.at_] at hg
  injection hg with hg
  injection hg with _ h9
  exact hne h9.symm
theorem own_before {w : World} {base e size : Nat} {v : Value} {n : Nat} {xs : List Value} (h : w.ownsRow base e size v n xs) {X : Nat} (hX : w.heap.size ≤ X) : v.ownBlock ≠ some X := fun hb => by
  have := (h.lt X hb).2
  omega
/-- Cells written above a beginning of a row. -/
theorem setCells_gb {w : World} (g : Nat) : ∀ (L : List Value) (o : Nat), w.grownBy (w.setCells g o L) (some g) := by
  intro L
  induction L generalizing w with
  | nil => intro o; exact gb_of_below (Below.refl _ _)
  | cons v L ih =>
    intro o
    refine gb_trans ?_ (ih (w := w.setCell ⟨g, o, none⟩ v) (o + 1))
    refine ⟨rfl, rfl, rfl, by simp [World.setCell], fun k hk hn => Below.heap_setCell _ _ _ _ (fun e => hn (by rw [e]))⟩
end Go.Proofs.YtleagenhnchjdaaGreatDoor

namespace Go.Proofs.YtleagenhnchjdaaGreatDoor
open Go.RowKit

/-- All bytes of l are in cs (what Trim leaves is empty). -/
def allIn (l cs : List UInt8) : Bool := (Lib.trimS l cs).isEmpty
def digitSet : List UInt8 := [48, 49, 50, 51, 52, 53, 54, 55, 56, 57]
def keySet : List UInt8 := [97, 98, 99, 100, 101, 102, 103, 104, 105, 106, 107, 108, 109, 110, 111, 112, 113, 114, 115, 116, 117, 118, 119, 120, 121, 122, 48, 49, 50, 51, 52, 53, 54, 55, 56, 57, 45, 95]

theorem trim_digits (s : ByteArray) (w : World) (hs : s.size ≤ 9223372036854775807) :
    Calls Tryz.prog 95 #[.string s, .string ⟨#[48, 49, 50, 51, 52, 53, 54, 55, 56, 57]⟩] w fun e w' => e = .returned (.string ⟨(Lib.trimS s.data.toList digitSet).toArray⟩) ∧ Below w.heap.size w w' :=
  Tryz.strings_Trim_set s ⟨#[48, 49, 50, 51, 52, 53, 54, 55, 56, 57]⟩ w hs (by decide) (Go.Proofs.ascii_of_all (by decide))

theorem isDigits_any (s : ByteArray) (w : World) (hs : s.size ≤ 9223372036854775807) :
    Calls Tryz.prog 124 #[.string s] w fun e w' => e = .returned (.bool (allIn s.data.toList digitSet)) ∧ Below w.heap.size w w' := by
  have hcon := trim_digits s w hs
  unfold allIn
  generalize Lib.trimS s.data.toList digitSet = r at hcon ⊢
  go_enter Tryz.func124, Tryz.ntmps124
  go_wp2_with (go_at_call 95; refine hcon.mono ?_; rintro e w' ⟨rfl, hB⟩)
  go_ret
  exact ⟨rfl, hB⟩

def digitsB (l : List UInt8) (lo hi : Int) : Bool := decide (lo ≤ l.length) && (decide ((l.length : Int) ≤ hi) && allIn l digitSet)

theorem digitsOf_any (s : ByteArray) (lo hi : Int) (w : World) (hs : s.size ≤ 9223372036854775807) :
    Calls Tryz.prog 94 #[.string s, .int .i64 lo, .int .i64 hi] w fun e w' => e = .returned (.bool (digitsB s.data.toList lo hi)) ∧ Below w.heap.size w w' := by
  have hcon := isDigits_any s w hs
  have hd : Hid (digitsB s.data.toList lo hi = (decide (lo ≤ s.size) && (decide ((s.size : Int) ≤ hi) && allIn s.data.toList digitSet))) := by rfl
  generalize allIn s.data.toList digitSet = r at hcon hd
  by_cases h1 : lo ≤ s.size
  · by_cases h2 : (s.size : Int) ≤ hi
    · go_enter Tryz.func94, Tryz.ntmps94
      go_wp2_with (go_at_call 124; refine hcon.mono ?_; rintro e w' ⟨rfl, hB⟩)
      go_ret
      exact ⟨by rw [hd.out]; simp [h1, h2], hB⟩
    · go_enter Tryz.func94, Tryz.ntmps94
      go_wp2_with (go_at_call 124; refine hcon.mono ?_; rintro e w' ⟨rfl, hB⟩)
      go_ret
      exact ⟨by rw [hd.out, decide_eq_false (show ¬ (s.size : Int) ≤ hi by omega)]; simp, Below.refl _ _⟩
  · go_enter Tryz.func94, Tryz.ntmps94
    go_wp2_with (go_at_call 124; refine hcon.mono ?_; rintro e w' ⟨rfl, hB⟩)
    go_ret
    exact ⟨by rw [hd.out, decide_eq_false (show ¬ lo ≤ (s.size : Int) by omega)]; simp, Below.refl _ _⟩

theorem byte_bne48 (c : UInt8) : ((c.toNat : Int) != 48) = (c != 48) := by
  rw [Bool.eq_iff_iff]; simp [← UInt8.toNat_inj]; omega

def isNumB (l : List UInt8) : Bool := Lib.hasPrefix l [43] && (digitsB (Lib.trimPrefix l [43]) 4 15 && ((Lib.trimPrefix l [43]).headD 0 != 48))

theorem isNumber_any (s : ByteArray) (w : World) (hs : s.size ≤ 9223372036854775807) :
    Calls Tryz.prog 48 #[.string s] w fun e w' => e = .returned (.bool (isNumB s.data.toList)) ∧ Below w.heap.size w w' := by
  have hcon := Tryz.strings_CutPrefix s ⟨#[43]⟩ w
  have hle : (Lib.trimPrefix s.data.toList [43]).length ≤ s.data.toList.length := by unfold Lib.trimPrefix; split <;> simp
  have hd : Hid (isNumB s.data.toList = (Lib.hasPrefix s.data.toList [43] && (digitsB (Lib.trimPrefix s.data.toList [43]) 4 15 && ((Lib.trimPrefix s.data.toList [43]).headD 0 != 48)))) := by rfl
  have hl : s.data.toList.length = s.size := rfl
  rw [hl] at hle
  clear hl
  generalize Lib.trimPrefix s.data.toList [43] = d at hcon hd hle
  generalize Lib.hasPrefix s.data.toList [43] = b at hcon hd
  have hcon2 := fun w => digitsOf_any ⟨d.toArray⟩ 4 15 w (by show d.length ≤ _; omega)
  have h4 : Hid (digitsB d 4 15 = true → 4 ≤ d.length) := by intro h; simp [digitsB] at h; omega
  generalize digitsB d 4 15 = b2 at hcon2 hd h4
  cases b with
  | false =>
    go_enter Tryz.func48, Tryz.ntmps48
    go_wp2_with (go_at_call 93; refine hcon.mono ?_; rintro e w' ⟨rfl, rfl⟩)
    go_ret
    exact ⟨by rw [hd.out]; rfl, Below.refl _ _⟩
  | true =>
    cases b2 with
    | false =>
      go_enter Tryz.func48, Tryz.ntmps48
      go_wp2_with (first | (go_at_call 93; refine hcon.mono ?_; rintro e w' ⟨rfl, rfl⟩) | (go_at_call 94; refine (hcon2 _).mono ?_; rintro e w' ⟨rfl, hB⟩))
      go_ret
      exact ⟨by rw [hd.out]; rfl, hB⟩
    | true =>
      have h44 := h4.out rfl
      obtain ⟨c, d', rfl⟩ : ∃ c d', d = c :: d' := by cases d with | nil => simp at h44 | cons c d' => exact ⟨c, d', rfl⟩
      go_enter Tryz.func48, Tryz.ntmps48
      go_wp2_with (first | (go_at_call 93; refine hcon.mono ?_; rintro e w' ⟨rfl, rfl⟩) | (go_at_call 94; refine (hcon2 _).mono ?_; rintro e w' ⟨rfl, hB⟩))
      go_ret
      exact ⟨by rw [hd.out]; simp only [Bool.true_and, List.headD_cons, ← byte_bne48]; rfl, hB⟩

end Go.Proofs.YtleagenhnchjdaaGreatDoor

namespace Go.Proofs.YtleagenhnchjdaaGreatDoor

theorem less_nil (a : List UInt8) : Op.bytesLess a [] = false := by cases a <;> rfl
theorem less_nil_cons (b : UInt8) (l : List UInt8) : Op.bytesLess [] (b :: l) = true := rfl
theorem less_cons (a b : UInt8) (x y : List UInt8) : Op.bytesLess (a :: x) (b :: y) = (decide (a < b) || (a == b && Op.bytesLess x y)) := rfl

theorem cmp_neg : ∀ (a b : List UInt8), (Lib.compareBytes a b < 0) ↔ Op.bytesLess a b = true
  | [], [] => by simp [Lib.compareBytes, less_nil]
  | [], b :: l => by simp [Lib.compareBytes, less_nil_cons]
  | a :: l, [] => by simp [Lib.compareBytes, less_nil]
  | a :: x, b :: y => by
    have ih := cmp_neg x y
    rw [less_cons, Lib.compareBytes]
    by_cases h1 : a < b
    · simp [h1]
    · by_cases h2 : b < a
      · have : a ≠ b := fun e => by subst e; exact h1 h2
        simp [h1, h2, this]
      · have : a = b := UInt8.le_antisymm (UInt8.not_lt.1 h2) (UInt8.not_lt.1 h1)
        subst this
        simp [ih, UInt8.lt_irrefl]

theorem cmp_zero : ∀ (a b : List UInt8), (Lib.compareBytes a b = 0) ↔ a = b
  | [], [] => by simp [Lib.compareBytes]
  | [], b :: l => by simp [Lib.compareBytes]
  | a :: l, [] => by simp [Lib.compareBytes]
  | a :: x, b :: y => by
    have ih := cmp_zero x y
    rw [Lib.compareBytes]
    by_cases h1 : a < b
    · have : a ≠ b := fun e => by subst e; exact UInt8.lt_irrefl _ h1
      simp [h1, this]
    · by_cases h2 : b < a
      · have : a ≠ b := fun e => by subst e; exact h1 h2
        simp [h1, h2, this]
      · have : a = b := UInt8.le_antisymm (UInt8.not_lt.1 h2) (UInt8.not_lt.1 h1)
        subst this
        simp [ih, UInt8.lt_irrefl]

theorem less_irrefl : ∀ a : List UInt8, Op.bytesLess a a = false
  | [] => rfl
  | a :: x => by rw [less_cons, less_irrefl x]; simp [UInt8.lt_irrefl]

theorem less_trans : ∀ {a b c : List UInt8}, Op.bytesLess a b = true → Op.bytesLess b c = true → Op.bytesLess a c = true
  | _, [], _, h, _ => by rw [less_nil] at h; cases h
  | _, _ :: _, [], _, h => by rw [less_nil] at h; cases h
  | [], _ :: _, _ :: _, _, _ => rfl
  | a :: x, b :: y, c :: z, h, k => by
    rw [less_cons] at h k ⊢
    simp only [Bool.or_eq_true, decide_eq_true_eq, Bool.and_eq_true, beq_iff_eq] at h k ⊢
    rcases h with h | ⟨rfl, h⟩
    · rcases k with k | ⟨rfl, k⟩
      · exact Or.inl (UInt8.lt_trans h k)
      · exact Or.inl h
    · rcases k with k | ⟨rfl, k⟩
      · exact Or.inl k
      · exact Or.inr ⟨rfl, less_trans h k⟩

theorem less_total : ∀ (a b : List UInt8), Op.bytesLess a b = false → a ≠ b → Op.bytesLess b a = true
  | [], [], _, h => absurd rfl h
  | [], _ :: _, h, _ => by cases h
  | _ :: _, [], _, _ => rfl
  | a :: x, b :: y, h, k => by
    rw [less_cons] at h ⊢
    simp only [Bool.or_eq_false_iff, decide_eq_false_iff_not, Bool.and_eq_false_iff, beq_eq_false_iff_ne] at h
    simp only [Bool.or_eq_true, decide_eq_true_eq, Bool.and_eq_true, beq_iff_eq]
    obtain ⟨h1, h2⟩ := h
    by_cases e : a = b
    · subst e
      rcases h2 with h2 | h2
      · exact absurd rfl h2
      · exact Or.inr ⟨rfl, less_total x y h2 (fun e => k (by rw [e]))⟩
    · refine Or.inl (UInt8.lt_of_le_of_ne (UInt8.not_lt.1 h1) (Ne.symm e))

/-- Go's '<=' of strings. -/
def leS (a b : List UInt8) : Bool := Op.bytesLess a b || a == b
theorem leS_false {a b : List UInt8} (h : leS a b = false) : Op.bytesLess a b = false ∧ (a == b) = false := by simpa [leS] using h
theorem less_of_leS {a b : List UInt8} (h : leS a b = false) : Op.bytesLess b a = true := by
  obtain ⟨h1, h2⟩ := leS_false h
  exact less_total a b h1 (by simpa using h2)
end Go.Proofs.YtleagenhnchjdaaGreatDoor

set_option linter.unusedVariables false
set_option linter.unusedSimpArgs false
namespace Go.Proofs.YtleagenhnchjdaaGreatDoor
open Go.RowKit

structure Area where
  pre : List UInt8
  low : Int
  high : Int
def noArea : Area := ⟨[], 0, 0⟩
def Area.cells (x : Area) : List Value := [.string ⟨x.pre.toArray⟩, .int .i64 x.low, .int .i64 x.high]
structure Ctry where
  code : List UInt8
  abroad : List UInt8
  trunk : List UInt8
  aa : Option Addr
  an : Nat
  ac : Nat
  areas : List Area
def noCtry : Ctry := ⟨[], [], [], none, 0, 0, []⟩
def Ctry.cells (x : Ctry) : List Value := [.string ⟨x.code.toArray⟩, .string ⟨x.abroad.toArray⟩, .string ⟨x.trunk.toArray⟩, .slice x.aa x.an x.ac]
def Ctry.val (x : Ctry) : Value := .agg x.cells.toArray

/-- The first error of some. -/
def firstErr (f : Nat → Int) (n : Nat) : Int := match (List.range n).find? (fun i => f i != 0) with | some i => f i | none => 0
theorem first_none {f : Nat → Int} {n : Nat} (h : ∀ j, j < n → f j = 0) : firstErr f n = 0 := by
  unfold firstErr
  rw [List.find?_eq_none.2 (fun i hi => by simp [h i (by simpa using hi)])]
theorem first_some {f : Nat → Int} {n k : Nat} (h : ∀ j, j < k → f j = 0) (hk : k < n) (hn : f k ≠ 0) : firstErr f n = f k := by
  have hs : ((List.range n).find? (fun i => f i != 0)).isSome = true := by
    rw [List.find?_isSome]; exact ⟨k, by simpa using hk, by simpa using hn⟩
  obtain ⟨x, hx⟩ := Option.isSome_iff_exists.1 hs
  have e : firstErr f n = f x := by unfold firstErr; rw [hx]
  have hp := List.find?_some hx
  simp at hp
  have hge : k ≤ x := by
    rcases Nat.lt_or_ge x k with h1 | h1
    · exact absurd (h x h1) hp
    · exact h1
  rw [List.find?_eq_some_iff_getElem] at hx
  obtain ⟨_, i, hi, he, hj⟩ := hx
  simp at he
  subst he
  rcases Nat.lt_or_eq_of_le hge with h1 | h1
  · have := hj k h1
    simp at this
    exact absurd this hn
  · rw [e, ← h1]

def prevArea (c : Ctry) (i : Nat) : Area := c.areas.getD (i - 1) noArea
def areaBad (code pre : List UInt8) (low high : Int) : Bool := decide (low ≤ pre.length) || (decide (high < low) || (decide (15 - (code.length : Int) < high) || decide (low < 4 - (code.length : Int))))
def areaErrOf (c : Ctry) (i : Nat) (a p : Area) : Int :=
  if digitsB a.pre 1 8 = false then 3
  else if (decide (0 < i) && leS a.pre p.pre) = true then 7
  else if ((decide (0 < i) && Lib.hasPrefix a.pre p.pre) || (Lib.hasPrefix (c.trunk ++ a.pre) c.abroad || Lib.hasPrefix c.abroad (c.trunk ++ a.pre))) = true then 13
  else if areaBad c.code a.pre a.low a.high = true then 1 else 0
def areaErr (c : Ctry) (i : Nat) : Int := areaErrOf c i (c.areas.getD i noArea) (prevArea c i)
def ctryErrOf (l : List Ctry) (i : Nat) (c p : Ctry) : Int :=
  if digitsB c.code 1 3 = false then 3 else if (c.code.headD 0 == 48) = true then 3
  else if (decide (0 < i) && leS c.code p.code) = true then 7
  else if ((l.take i).any fun d => Lib.hasPrefix c.code d.code) = true then 13
  else if digitsB c.abroad 1 4 = false then 3 else if digitsB c.trunk 0 2 = false then 3 else if Lib.hasPrefix c.trunk c.abroad = true then 3
  else if 300 < c.an then 2 else 0
def ctryErr (l : List Ctry) (i : Nat) : Int := ctryErrOf l i (l.getD i noCtry) (l.getD (i - 1) noCtry)
def partErr (l : List Ctry) (i : Nat) : Int := if ctryErr l i ≠ 0 then ctryErr l i else firstErr (areaErr (l.getD i noCtry)) (l.getD i noCtry).areas.length
def planErr (l : List Ctry) : Int := if 100 < l.length then 2 else firstErr (partErr l) l.length

/-! ### In memory -/
structure AreaRow (w : World) (a : Option Addr) (n : Nat) (l : List Area) : Prop where
  len : n = l.length
  row : n = 0 ∨ ∃ b off, a = some ⟨b, off, none⟩ ∧ b < w.heap.size ∧ ∀ i, i < n → ∀ j, j < 3 → w.cell? ⟨b, off + i * 3 + j, none⟩ = (l.getD i noArea).cells[j]?
structure AreaFine (x : Area) : Prop where
  pre : x.pre.length ≤ 100
  l0 : -4000000000000 ≤ x.low
  l1 : x.low ≤ 4000000000000
  h0 : -4000000000000 ≤ x.high
  h1 : x.high ≤ 4000000000000
structure CtryFine (w : World) (x : Ctry) : Prop where
  code : x.code.length ≤ 100
  abroad : x.abroad.length ≤ 100
  trunk : x.trunk.length ≤ 100
  many : x.an ≤ 1000
  row : AreaRow w x.aa x.an x.areas
  each : ∀ i, i < x.areas.length → AreaFine (x.areas.getD i noArea)
structure CtryRow (w : World) (a : Option Addr) (n : Nat) (l : List Ctry) : Prop where
  len : n = l.length
  few : n ≤ 1000
  row : n = 0 ∨ ∃ b off, a = some ⟨b, off, none⟩ ∧ b < w.heap.size ∧ ∀ i, i < n → ∀ j, j < 4 → w.cell? ⟨b, off + i * 4 + j, none⟩ = (l.getD i noCtry).cells[j]?
  each : ∀ i, i < l.length → CtryFine w (l.getD i noCtry)
theorem AreaRow.below {w w' : World} {a : Option Addr} {n : Nat} {l : List Area} (h : AreaRow w a n l) (hb : Below w.heap.size w w') : AreaRow w' a n l := by
  refine ⟨h.len, h.row.imp id ?_⟩
  rintro ⟨b, off, ha, hl, hc⟩
  exact ⟨b, off, ha, Nat.lt_of_lt_of_le hl hb.size, fun i hi j hj => (hb.cell (p := ⟨b, off + i * 3 + j, none⟩) hl).trans (hc i hi j hj)⟩
theorem CtryFine.below {w w' : World} {x : Ctry} (h : CtryFine w x) (hb : Below w.heap.size w w') : CtryFine w' x := ⟨h.code, h.abroad, h.trunk, h.many, h.row.below hb, h.each⟩
theorem CtryRow.below {w w' : World} {a : Option Addr} {n : Nat} {l : List Ctry} (h : CtryRow w a n l) (hb : Below w.heap.size w w') : CtryRow w' a n l := by
  refine ⟨h.len, h.few, h.row.imp id ?_, fun i hi => (h.each i hi).below hb⟩
  rintro ⟨b, off, ha, hl, hc⟩
  exact ⟨b, off, ha, Nat.lt_of_lt_of_le hl hb.size, fun i hi j hj => (hb.cell (p := ⟨b, off + i * 4 + j, none⟩) hl).trans (hc i hi j hj)⟩
theorem area_cells {w : World} {b o : Nat} {x : Area} (h : ∀ j, j < 3 → w.cell? ⟨b, o + j, none⟩ = x.cells[j]?) : w.cell? ⟨b, o, none⟩ = some (.string ⟨x.pre.toArray⟩) ∧ w.cell? ⟨b, o + 1, none⟩ = some (.int .i64 x.low) ∧ w.cell? ⟨b, o + 2, none⟩ = some (.int .i64 x.high) :=
  ⟨h 0 (by omega), h 1 (by omega), h 2 (by omega)⟩
theorem ctry_cells {w : World} {b o : Nat} {x : Ctry} (h : ∀ j, j < 4 → w.cell? ⟨b, o + j, none⟩ = x.cells[j]?) : w.cell? ⟨b, o, none⟩ = some (.string ⟨x.code.toArray⟩) ∧ w.cell? ⟨b, o + 1, none⟩ = some (.string ⟨x.abroad.toArray⟩) ∧ w.cell? ⟨b, o + 2, none⟩ = some (.string ⟨x.trunk.toArray⟩) ∧ w.cell? ⟨b, o + 3, none⟩ = some (.slice x.aa x.an x.ac) :=
  ⟨h 0 (by omega), h 1 (by omega), h 2 (by omega), h 3 (by omega)⟩
end Go.Proofs.YtleagenhnchjdaaGreatDoor

set_option linter.unusedVariables false
set_option linter.unusedSimpArgs false
namespace Go.Proofs.YtleagenhnchjdaaGreatDoor

instance : Inhabited Area := ⟨noArea⟩
instance : Inhabited Ctry := ⟨noCtry⟩

structure Spl where
  err : Int
  code : List UInt8
  area : List UInt8
  rest : List UInt8
def noSpl (e : Int) : Spl := ⟨e, [], [], []⟩
def inArea (code nat : List UInt8) (a : Area) : Spl := if (decide ((nat.length : Int) < a.low) || decide (a.high < (nat.length : Int))) = true then noSpl 1 else ⟨0, code, a.pre, nat.drop a.pre.length⟩
def inAreas (code nat : List UInt8) (l : List Area) : Option Spl := (l.find? fun a => Lib.hasPrefix nat a.pre).map (inArea code nat)
def splitIn (l : List Ctry) (n : List UInt8) : Spl := ((l.find? fun c => Lib.hasPrefix (n.drop 1) c.code).bind fun c => inAreas c.code (n.drop (1 + c.code.length)) c.areas).getD (noSpl 8)
def splitP (l : List Ctry) (n : List UInt8) : Spl := if isNumB n = false then noSpl 3 else splitIn l n
def tryCtry (n : List UInt8) (c : Ctry) : Option Spl := if Lib.hasPrefix n (43 :: c.code) = true then inAreas c.code (n.drop (1 + c.code.length)) c.areas else none
def splitR (l : List Ctry) (n : List UInt8) : Spl := if isNumB n = false then noSpl 3 else (l.findSome? (tryCtry n)).getD (noSpl 8)

theorem idx_find {α : Type} [Inhabited α] (p : α → Bool) (l : List α) : (Lib.idxBy (fun _ y => p y) l default = -1 ∧ l.find? p = none) ∨ ∃ k, k < l.length ∧ Lib.idxBy (fun _ y => p y) l default = (k : Int) ∧ l.find? p = some l[k]! ∧ p l[k]! = true := by
  cases h : l.find? p with
  | none =>
    left
    refine ⟨?_, rfl⟩
    have := Lib.idxBy_miss (fun _ y => p y) l l.length default (fun j hj => by
      have := List.find?_eq_none.1 h (l[j]!) (by rw [getElem!_pos l j hj]; exact List.getElem_mem hj)
      simpa using this)
    simpa using this
  | some x =>
    right
    rw [List.find?_eq_some_iff_getElem] at h
    obtain ⟨hx, i, hi, he, hj⟩ := h
    have e : l[i]! = x := by rw [getElem!_pos l i hi]; exact he
    refine ⟨i, hi, ?_, by rw [e], by rw [e]; exact hx⟩
    have := Lib.idxBy_hit (fun _ y => p y) l l.length i default hi (Nat.le_refl _) (by show p l[i]! = true; rw [e]; exact hx) (fun j h9 => by
      have := hj j h9
      rw [getElem!_pos l j (by omega)]
      simpa using this)
    simpa using this

theorem first_zero {f : Nat → Int} {n : Nat} (h : firstErr f n = 0) : ∀ j, j < n → f j = 0 := by
  intro j
  induction j using Nat.strongRecOn with
  | ind j ih =>
    intro hj
    rcases Classical.em (f j = 0) with h0 | h0
    · exact h0
    · have := first_some (f := f) (n := n) (k := j) (fun i hi => ih i hi (by omega)) hj h0
      rw [h] at this
      exact this.symm

theorem less_app (b t : List UInt8) : Op.bytesLess (b ++ t) b = false := by
  induction b with
  | nil => exact less_nil _
  | cons x b ih => rw [List.cons_append, less_cons, ih]; simp [UInt8.lt_irrefl]

theorem ctry_parts {l : List Ctry} {i : Nat} (h : ctryErr l i = 0) : (0 < i → Op.bytesLess (l.getD (i - 1) noCtry).code (l.getD i noCtry).code = true) ∧ ((l.take i).any fun d => Lib.hasPrefix (l.getD i noCtry).code d.code) = false ∧ (l.getD i noCtry).an ≤ 300 := by
  unfold ctryErr ctryErrOf at h
  generalize l.getD i noCtry = c at h ⊢
  generalize l.getD (i - 1) noCtry = p at h ⊢
  split at h
  · cases h
  split at h
  · cases h
  split at h
  · cases h
  rename_i h3
  split at h
  · cases h
  rename_i h4
  split at h
  · cases h
  split at h
  · cases h
  split at h
  · cases h
  split at h
  · cases h
  rename_i h8
  refine ⟨fun h0 => ?_, by simpa using h4, by omega⟩
  have : leS c.code p.code = false := by simpa [h0] using h3
  exact less_of_leS this

theorem plan_ctry {l : List Ctry} (h : planErr l = 0) : ∀ i, i < l.length → ctryErr l i = 0 := by
  unfold planErr at h
  split at h
  · cases h
  intro i hi
  have := first_zero h i hi
  unfold partErr at this
  split at this
  · rename_i h1; exact absurd this h1
  · rename_i h1; simpa using h1

theorem plan_order {l : List Ctry} (h : planErr l = 0) : ∀ i j, i < j → j < l.length → Op.bytesLess (l.getD i noCtry).code (l.getD j noCtry).code = true := by
  intro i j hij
  obtain ⟨d, rfl⟩ : ∃ d, j = i + 1 + d := ⟨j - (i + 1), by omega⟩
  induction d with
  | zero =>
    intro hj
    have := (ctry_parts (plan_ctry h (i + 1) hj)).1 (by omega)
    simpa using this
  | succ d ih =>
    intro hj
    have h1 := ih (by omega) (by omega)
    have h2 := (ctry_parts (plan_ctry h (i + 1 + d + 1) hj)).1 (by omega)
    rw [show i + 1 + d + 1 - 1 = i + 1 + d by omega] at h2
    exact less_trans h1 h2

theorem plan_alone {l : List Ctry} (h : planErr l = 0) (x : List UInt8) : l.Pairwise fun c d => Lib.hasPrefix x c.code = true → Lib.hasPrefix x d.code = false := by
  rw [List.pairwise_iff_getElem]
  intro i j hi hj hij h1
  rw [Bool.eq_false_iff]
  intro h2
  have ei : l[i] = l.getD i noCtry := by simp [hi]
  have ej : l[j] = l.getD j noCtry := by simp [hj]
  have ho := plan_order h i j hij hj
  have hp := (ctry_parts (plan_ctry h j hj)).2.1
  rw [← ej] at hp
  rw [← ei, ← ej] at ho
  rw [List.any_eq_false] at hp
  have hp := hp l[i] (by rw [List.mem_take_iff_getElem]; exact ⟨i, by omega, rfl⟩)
  unfold Lib.hasPrefix at h1 h2 hp
  rw [List.isPrefixOf_iff_prefix] at h1 h2 hp
  rcases List.prefix_or_prefix_of_prefix h1 h2 with h3 | h3
  · exact hp h3
  · obtain ⟨t, ht⟩ := h3
    rw [← ht, less_app] at ho
    cases ho

theorem find_same {α : Type} (l : List Ctry) (p : Ctry → Bool) (f : Ctry → Option α) (h : l.Pairwise fun c d => p c = true → p d = false) : l.findSome? (fun c => if p c = true then f c else none) = (l.find? p).bind f := by
  induction l with
  | nil => rfl
  | cons c l ih =>
    rw [List.pairwise_cons] at h
    cases hc : p c with
    | false => simp [List.findSome?_cons, List.find?_cons, hc, ih h.2]
    | true =>
      have : l.findSome? (fun c => if p c = true then f c else none) = none := by
        rw [List.findSome?_eq_none_iff]
        intro d hd
        simp [h.1 d hd hc]
      simp [List.findSome?_cons, List.find?_cons, hc, this]
      cases f c <;> rfl

theorem plus_head {n : List UInt8} (h : isNumB n = true) : ∃ d, n = 43 :: d ∧ digitsB d 4 15 = true := by
  unfold isNumB at h
  simp only [Bool.and_eq_true] at h
  obtain ⟨h1, h2, _⟩ := h
  cases n with
  | nil => simp [Lib.hasPrefix] at h1
  | cons c d =>
    have hc : c = 43 := by
      unfold Lib.hasPrefix at h1
      rw [List.isPrefixOf_iff_prefix, List.cons_prefix_cons] at h1
      exact h1.1.symm
    subst hc
    refine ⟨d, rfl, ?_⟩
    simpa [Lib.trimPrefix, h1] using h2

theorem split_same {l : List Ctry} (n : List UInt8) (h : planErr l = 0) : splitR l n = splitP l n := by
  unfold splitR splitP
  cases hn : isNumB n with
  | false => rfl
  | true =>
    obtain ⟨d, rfl, _⟩ := plus_head hn
    simp only [Bool.true_eq_false, if_false]
    unfold splitIn
    have e : tryCtry (43 :: d) = fun c => if (fun c : Ctry => Lib.hasPrefix d c.code) c = true then inAreas c.code ((43 :: d).drop (1 + c.code.length)) c.areas else none := by
      funext c
      simp [tryCtry, Lib.hasPrefix, List.isPrefixOf]
    rw [e, find_same l _ _ (plan_alone h d)]
    rfl
end Go.Proofs.YtleagenhnchjdaaGreatDoor

namespace Go.Proofs.YtleagenhnchjdaaGreatDoor

/-- Each operation ahead of number m is waited for by one behind it, up to m; an operation waits for earlier ones alone; guards name operations ahead of m. -/
def lastChk (ops : Array Oper) (m : Nat) : Bool :=
  ((List.range m).all fun i => (List.range (m + 1)).any fun k => decide (i < k) && ((ops[k]?).map fun o => o.after.any fun e => Region.binds .any e && e.on == i).getD false) &&
  ((List.range (m + 1)).all fun i => ((ops[i]?).map fun o => o.after.all fun e => !Region.binds .any e || decide (e.on < i)).getD false) &&
  ((List.range m).all fun i => ((ops[i]?).map fun o => match o.guard with | none => true | some (g, _) => decide (g < m)).getD true)

/-- The post of the region without its last operation: that operation is still to come. -/
def lastQ (P : Program) (st : Oper) (Q : Exit → Act → World → Prop) : Exit → Act → World → Prop
  | .normal, a, w => Oper.wp P st a w (fun a' w' => Q .normal a' w') Q ∨ (st.asks P a w ∧ LetsOut Q)
  | e, a, w => Q e a w

section
variable {P : Program} {ops : Array Oper} {Q : Exit → Act → World → Prop} {st : Oper} {m : Nat}

theorem lastQ_other {e : Exit} {a : Act} {w : World} (h : lastQ P st Q e a w) (hn : e ≠ .normal) : Q e a w := by
  cases e <;> first | exact h | exact absurd rfl hn

theorem upon_last {o : Oper} {a : Act} {K K' : Act → World → Prop} (hK : ∀ a w, K a w → K' a w) (r : Result Next) (h : o.upon P a K (lastQ P st Q) r) : o.upon P a K' Q r := by
  cases r with
  | ok n w' =>
    cases n <;> simp only [Oper.upon] at h ⊢ <;>
      first
        | exact hK _ _ h
        | exact Calls.mono h (fun e w'' he => by cases e <;> first | exact hK _ _ he | exact he)
        | exact Rows.mono h (fun _ _ he => hK _ _ he)
  | halt x w' => cases x <;> simp only [Oper.upon] at h ⊢ <;> exact h

variable (ops) in
/-- What is listed has all that it waits for listed. -/
def ClosedL (l : Array Bool) : Prop := ∀ i o, ops[i]? = some o → l.getD i false = true → ∀ e ∈ o.after, Region.binds .any e = true → l.getD e.on false = true

theorem ClosedL.set {l : Array Bool} {i : Nat} (h : ClosedL ops l) (hr : i ∈ Region.ready .any ops l) : ClosedL ops (l.setIfInBounds i true) := by
  intro j o ho hj e he hb
  by_cases hji : j = i
  · subst hji
    obtain ⟨_, o', ho', hall⟩ := mem_ready.1 hr
    rw [ho] at ho'; cases ho'
    exact getD_set_true (hall e he hb)
  · rw [getD_set_ne false (Ne.symm hji)] at hj
    exact getD_set_true (h j o ho hj e he hb)

theorem getD_two {l : Array Bool} {i : Nat} (hi : i < l.size) (b c : Bool) : l.getD i b = l.getD i c := by simp [hi]

theorem chk1 (hc : lastChk ops m = true) (i : Nat) (hi : i < m) : ∃ k o, i < k ∧ k ≤ m ∧ ops[k]? = some o ∧ ∃ e ∈ o.after, Region.binds .any e = true ∧ e.on = i := by
  simp only [lastChk, Bool.and_eq_true, List.all_eq_true, List.any_eq_true, List.mem_range, decide_eq_true_eq] at hc
  obtain ⟨k, hk, hik, hk2⟩ := hc.1.1 i hi
  cases ho : ops[k]? with
  | none => simp [ho] at hk2
  | some o =>
    simp only [ho, Option.map_some, Option.getD_some] at hk2
    obtain ⟨e, he, hb⟩ := Array.any_eq_true'.1 hk2
    simp only [Bool.and_eq_true, beq_iff_eq] at hb
    exact ⟨k, o, hik, by omega, ho, e, he, hb.1, hb.2⟩

theorem chk2 (hc : lastChk ops m = true) (i : Nat) (hi : i ≤ m) : ∃ o, ops[i]? = some o ∧ ∀ e ∈ o.after, Region.binds .any e = true → e.on < i := by
  simp only [lastChk, Bool.and_eq_true, List.all_eq_true, List.mem_range] at hc
  have h := hc.1.2 i (by omega)
  cases ho : ops[i]? with
  | none => simp [ho] at h
  | some o =>
    simp only [ho, Option.map_some, Option.getD_some] at h
    refine ⟨o, rfl, fun e he hb => ?_⟩
    have h1 := Array.all_eq_true_iff_forall_mem.1 h e he
    simpa [hb] using h1

theorem chk3 (hc : lastChk ops m = true) (i : Nat) (hi : i < m) (o : Oper) (ho : ops[i]? = some o) (g : Nat) (b : Bool) (hg : o.guard = some (g, b)) : g < m := by
  simp only [lastChk, Bool.and_eq_true, List.all_eq_true, List.mem_range] at hc
  have h := hc.2 i hi
  simpa [ho, hg] using h

/-- If the last may come up, all others are listed. -/
theorem all_listed (hc : lastChk ops m = true) {l : Array Bool} (hl : l.size = m + 1) (hcl : ClosedL ops l) (hr : m ∈ Region.ready .any ops l) : ∀ i, i < m → l.getD i true = true := by
  obtain ⟨_, om, hom, hall⟩ := mem_ready.1 hr
  have main : ∀ d i, i < m → m - i ≤ d → l.getD i false = true := by
    intro d
    induction d with
    | zero => intro i hi h; omega
    | succ d ih =>
      intro i hi h
      obtain ⟨k, o, hik, hkm, ho, e, he, hb, hon⟩ := chk1 hc i hi
      rcases Nat.lt_or_ge k m with hk | hk
      · rw [← hon]; exact hcl k o ho (ih k hk (by omega)) e he hb
      · obtain rfl : k = m := by omega
        rw [hom] at ho; cases ho
        rw [← hon]; exact hall e he hb
  intro i hi
  rw [getD_two (by omega) true false]
  exact main (m - i) i hi (Nat.le_refl _)

/-- If none of the others may come up, all are listed. -/
theorem listed_of_none (hc : lastChk ops m = true) {l : Array Bool} (hl : l.size = m + 1) (hn : ∀ i, i < m → i ∉ Region.ready .any ops l) : ∀ i, i < m → l.getD i true = true := by
  intro i
  induction i using Nat.strongRecOn with
  | _ i ih =>
    intro hi
    rcases Bool.eq_false_or_eq_true (l.getD i true) with h | h
    · exact h
    · refine absurd (mem_ready.2 ⟨h, ?_⟩) (hn i hi)
      obtain ⟨o, ho, hd⟩ := chk2 hc i (by omega)
      refine ⟨o, ho, fun e he hb => ?_⟩
      have := hd e he hb
      rw [getD_two (by omega) false true]
      exact ih e.on this (by omega)

theorem ready_all {l : Array Bool} (hsz : ops.size = m + 1) (h : ∀ i, i < m + 1 → l.getD i true = true) : Region.ready .any ops l = [] := by
  refine List.eq_nil_iff_forall_not_mem.2 fun i hi => ?_
  obtain ⟨h0, o, ho, _⟩ := mem_ready.1 hi
  have hlt := (Array.getElem?_eq_some_iff.1 ho).1
  rw [h i (by omega)] at h0
  cases h0

/-- The step of the last operation. -/
theorem last_step (hsz : ops.size = m + 1) (hst : ops[m]? = some st) (hg : st.guard = none) {l : Array Bool} (hl : l.size = m + 1) (h : ∀ i, i < m → l.getD i true = true) {a : Act} {w : World} (hq : lastQ P st Q .normal a w) (fuel : Nat) :
    wpOp P ops Q m (wpAny P .any ops Q fuel (l.setIfInBounds m true)) a w := by
  unfold wpOp
  simp only [hst]
  rw [if_pos (by simp [Region.wanted, hg])]
  refine hq.imp (Oper.wp_mono (fun a' w' h' => wpAny_done (ready_all hsz fun i hi => ?_) h' fuel)) id
  by_cases him : i = m
  · subst him; simp [hl]
  · rw [getD_set_ne true (Ne.symm him)]; exact h i (by omega)

theorem wpOp_last {ops' : Array Oper} (hc : lastChk ops m = true) (hsame : ∀ i, i < m → ops'[i]? = ops[i]?) {i : Nat} (hi : i < m) {K K' : Act → World → Prop} (hK : ∀ a w, K a w → K' a w) {a : Act} {w : World} (h : wpOp P ops' (lastQ P st Q) i K a w) : wpOp P ops Q i K' a w := by
  unfold wpOp at *
  rw [hsame i hi] at h
  cases ho : ops[i]? with
  | none => simp only [ho] at h ⊢; exact hK _ _ h
  | some o =>
    simp only [ho] at h ⊢
    have hw : Region.wanted o (yielded ops' a.tmps) = Region.wanted o (yielded ops a.tmps) := by
      unfold Region.wanted
      cases hgd : o.guard with
      | none => rfl
      | some gb =>
        obtain ⟨g, b⟩ := gb
        have := chk3 hc i hi o ho g b hgd
        simp only [yielded, hsame g this]
    rw [hw] at h
    split
    · rename_i hwt
      simp only [hwt, if_true] at h
      rcases h with h | ⟨h1, a1, w1, h2⟩
      · exact Or.inl (upon_last hK _ h)
      · exact Or.inr ⟨h1, a1, w1, h2⟩
    · rename_i hwt
      simp only [hwt] at h
      exact hK _ _ h

theorem last_any {ops' : Array Oper} (hsz : ops.size = m + 1) (hst : ops[m]? = some st) (hg : st.guard = none) (hc : lastChk ops m = true) (hsz' : ops'.size = m) (hsame : ∀ i, i < m → ops'[i]? = ops[i]?) :
    ∀ (fuel : Nat) (l l' : Array Bool) (a : Act) (w : World), l.size = m + 1 → l'.size = m → (∀ i, i < m → l'.getD i true = l.getD i true) → l.getD m true = false → ClosedL ops l →
      wpAny P .any ops' (lastQ P st Q) fuel l' a w → wpAny P .any ops Q (fuel + 1) l a w := by
  have rdy : ∀ {l l' : Array Bool} {i : Nat}, l.size = m + 1 → l'.size = m → (∀ i, i < m → l'.getD i true = l.getD i true) → i < m → (i ∈ Region.ready .any ops l ↔ i ∈ Region.ready .any ops' l') := by
    intro l l' i hl hl' he hi
    rw [mem_ready, mem_ready, hsame i hi, he i hi]
    obtain ⟨o, ho, hd⟩ := chk2 hc i (by omega)
    have key : ∀ e ∈ o.after, Region.binds .any e = true → l'.getD e.on false = l.getD e.on false := fun e hem hb => by
      have := hd e hem hb
      rw [getD_two (by omega) false true, he e.on (by omega), getD_two (l := l) (by omega) false true]
    constructor
    · rintro ⟨h0, o', ho', hall⟩
      rw [ho] at ho'; cases ho'
      exact ⟨h0, o, ho, fun e hem hb => by rw [key e hem hb]; exact hall e hem hb⟩
    · rintro ⟨h0, o', ho', hall⟩
      rw [ho] at ho'; cases ho'
      exact ⟨h0, o, ho, fun e hem hb => by rw [← key e hem hb]; exact hall e hem hb⟩
  have rlt : ∀ {l' : Array Bool} {i : Nat}, i ∈ Region.ready .any ops' l' → i < m := fun hi => by
    obtain ⟨_, o, ho, _⟩ := mem_ready.1 hi
    have := (Array.getElem?_eq_some_iff.1 ho).1
    omega
  have mrdy : ∀ {l : Array Bool}, l.size = m + 1 → l.getD m true = false → (∀ i, i < m → l.getD i true = true) → m ∈ Region.ready .any ops l := fun {l} hl hm h => by
    obtain ⟨o, ho, hd⟩ := chk2 hc m (Nat.le_refl _)
    exact mem_ready.2 ⟨hm, o, ho, fun e he hb => by have := hd e he hb; rw [getD_two (by omega) false true]; exact h _ this⟩
  have ile : ∀ {l : Array Bool} {i : Nat}, i ∈ Region.ready .any ops l → i ≤ m := fun hi => by
    obtain ⟨_, o, ho, _⟩ := mem_ready.1 hi
    have := (Array.getElem?_eq_some_iff.1 ho).1
    omega
  have nonempty : ∀ {l l' : Array Bool}, l.size = m + 1 → l'.size = m → (∀ i, i < m → l'.getD i true = l.getD i true) → l.getD m true = false → Region.ready .any ops l ≠ [] := by
    intro l l' hl hl' he hm h0
    have h1 := listed_of_none hc hl (fun i hi hr => by rw [h0] at hr; cases hr)
    have := mrdy hl hm h1
    rw [h0] at this; cases this
  intro fuel
  induction fuel with
  | zero =>
    intro l l' a w hl hl' he hm hcl H
    refine ⟨fun h0 => absurd h0 (nonempty hl hl' he hm), fun i hi => ?_⟩
    by_cases him : i = m
    · subst him
      exact last_step hsz hst hg hl (all_listed hc hl hcl hi) H.2 0
    · have := (rdy hl hl' he (by have := ile hi; omega)).1 hi
      rw [H.1] at this; cases this
  | succ fuel ih =>
    intro l l' a w hl hl' he hm hcl H
    refine ⟨fun h0 => absurd h0 (nonempty hl hl' he hm), fun i hi => ?_⟩
    by_cases him : i = m
    · subst him
      have hall := all_listed hc hl hcl hi
      refine last_step hsz hst hg hl hall (H.1 ?_) (fuel + 1)
      refine List.eq_nil_iff_forall_not_mem.2 fun j hj => ?_
      have hjm := rlt hj
      have h0 := (mem_ready.1 hj).1
      rw [he j hjm, hall j hjm] at h0; cases h0
    · have hilt : i < m := by have := ile hi; omega
      refine wpOp_last hc hsame hilt (fun a' w' h' => ?_) (H.2 i ((rdy hl hl' he hilt).1 hi))
      refine ih _ _ a' w' (by simpa using hl) (by simpa using hl') (fun j hj => ?_) ?_ (hcl.set hi) h'
      · by_cases hji : j = i
        · subst hji; simp [hl, hl', hj, Nat.lt_succ_of_lt hj]
        · rw [getD_set_ne true (Ne.symm hji), getD_set_ne true (Ne.symm hji)]; exact he j hj
      · rw [getD_set_ne true him]; exact hm

/-- **A region that draws, walked without its last operation**: S need not hold behind that one. -/
theorem region_last_held {S : World → Prop} {id : Nat} {ops' : Array Oper} {a : Act} {w : World} (hm : P.follows .mixedOrders = true) (hops : ops = ops'.push st) (hg : st.guard = none) (hc : lastChk ops ops'.size = true)
    (hS : S w.drew) (h : S w.drew → wpAnyH P .any ops' (lastQ P st Q) S ops'.size (Array.replicate ops'.size false) a w.drew) : (Code.region id ops true).wp P Q a w := by
  refine wp_region_any hm ?_
  have hsz : ops.size = ops'.size + 1 := by rw [hops]; simp
  rw [hsz]
  refine last_any (m := ops'.size) hsz (by rw [hops]; simp) hg hc rfl (fun i hi => by rw [hops]; simp [Array.getElem?_push, Nat.ne_of_lt hi]) _ _ _ a _ (by simp) (by simp) (fun i hi => by simp [hi, Nat.lt_succ_of_lt hi]) (by simp) ?_ (wpAny_of_held _ _ _ _ (h hS))
  intro i o ho hl e he hb
  exfalso
  by_cases h' : i < ops'.size + 1
  · simp [h'] at hl
  · simp [h'] at hl

/-! ### A fixed order: what yields in every world that meets S is taken first ('true'); the rest comes up one by one ('false') -/

/-- The order fits the region. -/
def seqOk (ops : Array Oper) : List (Bool × Nat) → Array Bool → Bool
  | [], listed => (Region.ready .any ops listed).isEmpty
  | (true, i) :: rest, listed => (ops[i]?).isSome && Region.free .any ops listed i && (Region.ready .any ops listed).contains i && seqOk ops rest (listed.setIfInBounds i true)
  | (false, i) :: rest, listed => (Region.ready .any ops listed == [i]) && ((ops[i]?).map fun o => o.guard.isNone).getD false && seqOk ops rest (listed.setIfInBounds i true)

/-- The region in that order. -/
def wpSeq (P : Program) (ops : Array Oper) (Q : Exit → Act → World → Prop) (S : World → Prop) : List (Bool × Oper) → Act → World → Prop
  | [], a, w => Q .normal a w
  | (true, o) :: rest, a, w => ∃ v, YieldsIf P ops S o v a ∧ wpSeq P ops Q S rest (a.put o.dst v) w
  | (false, o) :: rest, a, w => o.wp P a w (fun a' w' => S w' ∧ wpSeq P ops Q S rest a' w') Q

theorem wpSeq_take {S : World → Prop} {o : Oper} {rest : List (Bool × Oper)} {a : Act} {w : World} {v : Value} (hw : Region.wanted o (yielded ops a.tmps) = true) (hv : ∀ w, S w → (execOp a.eval o).run P w = .ok (.value v) w) (h : wpSeq P ops Q S rest (a.put o.dst v) w) : wpSeq P ops Q S ((true, o) :: rest) a w :=
  ⟨v, Or.inl ⟨hw, hv⟩, h⟩
theorem wpSeq_skip {S : World → Prop} {o : Oper} {rest : List (Bool × Oper)} {a : Act} {w : World} (hw : Region.wanted o (yielded ops a.tmps) = false) (h : wpSeq P ops Q S rest (a.put o.dst undef) w) : wpSeq P ops Q S ((true, o) :: rest) a w :=
  ⟨undef, Or.inr ⟨hw, rfl⟩, h⟩
theorem wpSeq_do {S : World → Prop} {o : Oper} {rest : List (Bool × Oper)} {a : Act} {w : World} (h : ∀ K' : Act → World → Prop, Shut (∀ a w, S w → (S w → wpSeq P ops Q S rest a w) → K' a w) → Oper.wp P o a w K' Q) : wpSeq P ops Q S ((false, o) :: rest) a w :=
  h _ (fun _ _ hS hW => ⟨hS, hW hS⟩)
theorem wpSeq_nil {S : World → Prop} {a : Act} {w : World} (h : Q .normal a w) : wpSeq P ops Q S [] a w := h

theorem seq_held {S : World → Prop} (hs : Region.noSelect ops = true) (hQ : ∀ c a (d : Option Tmp) (v : Value) w, Q (.panic c) (a.put d v) w → Q (.panic c) a w) : ∀ (l : List (Bool × Nat)) (lo : List (Bool × Oper)) (listed : Array Bool) (a : Act) (w : World), l.map (fun p => (p.1, ops[p.2]?)) = lo.map (fun p => (p.1, some p.2)) → seqOk ops l listed = true → S w →
    wpSeq P ops Q S lo a w → wpAnyH P .any ops Q S l.length listed a w
  | [], lo, listed, a, w, he, hok, hS, h => by
    cases lo with
    | cons x xs => simp at he
    | nil => exact wpAnyH_done (by simpa [seqOk] using hok) h _
  | (b, i) :: l, lo, listed, a, w, he, hok, hS, h => by
    cases lo with
    | nil => simp at he
    | cons x xs =>
      obtain ⟨b', o⟩ := x
      simp only [List.map_cons, List.cons.injEq, Prod.mk.injEq] at he
      obtain ⟨⟨rfl, ho⟩, he⟩ := he
      cases b with
      | true =>
        obtain ⟨v, hy, h⟩ := h
        simp only [seqOk, Bool.and_eq_true] at hok
        exact wpAnyH_take ho hs hok.1.1.2 hok.1.2 (fun c a w => hQ c a _ _ w) hy hS (seq_held hs hQ l xs _ _ w he hok.2 hS h)
      | false =>
        simp only [seqOk, Bool.and_eq_true, beq_iff_eq, ho, Option.map_some, Option.getD_some] at hok
        refine wpAnyH_all hok.1.1 (by simp) (fun j hj => ?_)
        simp only [List.mem_singleton] at hj
        subst hj
        unfold wpOp
        simp only [ho]
        rw [if_pos (by simp only [Region.wanted]; cases hg : o.guard with | none => rfl | some g => simp [hg] at hok)]
        exact Or.inl (Oper.wp_mono (fun a' w' h' => ⟨h'.1, seq_held hs hQ l xs _ a' w' he hok.2 h'.1 h'.2⟩) h)

/-- **A region that draws, in a fixed order, without its last operation.** -/
theorem region_seq_last {S : World → Prop} {id : Nat} {L : List Oper} {a : Act} {w : World} (l : List (Bool × Nat)) (lo : List (Bool × Oper)) (hm : P.follows .mixedOrders = true) (hst : L.getLast? = some st) (hg : st.guard = none) (hc : lastChk L.toArray (L.length - 1) = true)
    (hs : Region.noSelect L.dropLast.toArray = true) (hlen : l.length = L.length - 1) (hok : seqOk L.dropLast.toArray l (Array.replicate (L.length - 1) false) = true) (hlo : l.map (fun p => (p.1, L.dropLast.toArray[p.2]?)) = lo.map (fun p => (p.1, some p.2)))
    (hQ : ∀ c a (d : Option Tmp) (v : Value) w, Q (.panic c) (a.put d v) w → Q (.panic c) a w) (hS : S w.drew) (h : S w.drew → wpSeq P L.dropLast.toArray (lastQ P st Q) S lo a w.drew) : (Code.region id L.toArray true).wp P Q a w := by
  have hd : L.dropLast.toArray.size = L.length - 1 := by simp
  refine region_last_held (S := S) (ops' := L.dropLast.toArray) (st := st) hm ?_ hg (by rw [hd]; exact hc) hS fun hS => ?_
  · obtain ⟨hne, he⟩ : ∃ hne : L ≠ [], L.getLast hne = st := by
      cases L with
      | nil => simp at hst
      | cons x xs => exact ⟨by simp, by rw [List.getLast?_eq_some_getLast (by simp)] at hst; exact Option.some.inj hst⟩
    have := List.dropLast_concat_getLast hne
    rw [he] at this
    conv => lhs; rw [← this]
    simp
  · have hok' : seqOk L.dropLast.toArray l (Array.replicate L.dropLast.toArray.size false) = true := by rw [hd]; exact hok
    have hl : L.dropLast.toArray.size = l.length := by rw [hd, hlen]
    have := seq_held (Q := lastQ P st Q) hs (fun c a d v w h => hQ c a d v w h) l lo _ _ _ hlo hok' hS (h hS)
    rw [← hl] at this
    exact this

/-- **A region that draws, in a fixed order.** -/
theorem region_seq {S : World → Prop} {id : Nat} {a : Act} {w : World} (l : List (Bool × Nat)) (lo : List (Bool × Oper)) (hm : P.follows .mixedOrders = true)
    (hs : Region.noSelect ops = true) (hlen : l.length = ops.size) (hok : seqOk ops l (Array.replicate ops.size false) = true) (hlo : l.map (fun p => (p.1, ops[p.2]?)) = lo.map (fun p => (p.1, some p.2)))
    (hQ : ∀ c a (d : Option Tmp) (v : Value) w, Q (.panic c) (a.put d v) w → Q (.panic c) a w) (hS : S w.drew) (h : S w.drew → wpSeq P ops Q S lo a w.drew) : (Code.region id ops true).wp P Q a w :=
  wp_region_held_drew (S := S) hm hS fun hS => by rw [← hlen] at hok ⊢; exact seq_held hs hQ l lo _ _ _ hlo hok hS (h hS)

/-- The order that is found by taking what may be taken first. -/
def seqFind (can : Nat → Bool) (ops : Array Oper) : Nat → Array Bool → List (Bool × Nat)
  | 0, _ => []
  | fuel + 1, listed =>
    match (Region.ready .any ops listed).find? (fun i => can i && Region.free .any ops listed i) with
    | some i => (true, i) :: seqFind can ops fuel (listed.setIfInBounds i true)
    | none => match Region.ready .any ops listed with
      | [] => []
      | i :: _ => (false, i) :: seqFind can ops fuel (listed.setIfInBounds i true)
end
end Go.Proofs.YtleagenhnchjdaaGreatDoor

namespace Go.Proofs.YtleagenhnchjdaaGreatDoor

section
variable {P : Program} {ops : Array Oper} {Q : Exit → Act → World → Prop}

/-- The order fits the region: what is marked 'true' may be taken first, what is marked 'false' is the only one that may come up. -/
def seqOkI (ops : Array Oper) : List (Bool × Nat) → Array Bool → Bool
  | [], listed => (Region.ready .any ops listed).isEmpty
  | (true, i) :: rest, listed => (ops[i]?).isSome && Region.free .any ops listed i && (Region.ready .any ops listed).contains i && seqOkI ops rest (listed.setIfInBounds i true)
  | (false, i) :: rest, listed => (ops[i]?).isSome && (Region.ready .any ops listed == [i]) && seqOkI ops rest (listed.setIfInBounds i true)

def noOper : Oper := ⟨none, .move (.const undef), 0, "", #[], none⟩
/-- The operations in that order. -/
def seqOps (L : List Oper) : List (Bool × Nat) → List (Bool × Oper)
  | [] => []
  | (b, i) :: rest => (b, L.getD i noOper) :: seqOps L rest

/-- The region in that order. -/
def wpSeqI (P : Program) (ops : Array Oper) (Q : Exit → Act → World → Prop) (S : World → Prop) : List (Bool × Oper) → Act → World → Prop
  | [], a, w => Q .normal a w
  | (true, o) :: rest, a, w => ∃ v, YieldsIf P ops S o v a ∧ (∀ c a w, Q (.panic c) (a.put o.dst v) w → Q (.panic c) a w) ∧ wpSeqI P ops Q S rest (a.put o.dst v) w
  | (false, o) :: rest, a, w => Region.wanted o (yielded ops a.tmps) = true ∧ o.wp P a w (fun a' w' => S w' ∧ wpSeqI P ops Q S rest a' w') Q

theorem seqI_take {S : World → Prop} {o : Oper} {rest : List (Bool × Oper)} {a : Act} {w : World} {v : Value} (hw : Region.wanted o (yielded ops a.tmps) = true) (hv : ∀ w, S w → (execOp a.eval o).run P w = .ok (.value v) w) (hQ : ∀ c a w, Q (.panic c) (a.put o.dst v) w → Q (.panic c) a w) (h : wpSeqI P ops Q S rest (a.put o.dst v) w) : wpSeqI P ops Q S ((true, o) :: rest) a w :=
  ⟨v, Or.inl ⟨hw, hv⟩, hQ, h⟩
theorem seqI_skip {S : World → Prop} {o : Oper} {rest : List (Bool × Oper)} {a : Act} {w : World} (hw : Region.wanted o (yielded ops a.tmps) = false) (hQ : ∀ c a w, Q (.panic c) (a.put o.dst undef) w → Q (.panic c) a w) (h : wpSeqI P ops Q S rest (a.put o.dst undef) w) : wpSeqI P ops Q S ((true, o) :: rest) a w :=
  ⟨undef, Or.inr ⟨hw, rfl⟩, hQ, h⟩
/-- A call of a Go function. -/
theorem seqI_call {S : World → Prop} {o : Oper} {rest : List (Bool × Oper)} {a : Act} {w : World} {R : Ending → World → Prop} (f : Nat) (vs : Array Value) (hw : Region.wanted o (yielded ops a.tmps) = true) (h : (execOp a.eval o).run P w = .ok (.enter f vs) w) (hc : Calls P f vs w R) (hR : ∀ e w', R e w' → ∃ v, e = .returned v ∧ S w' ∧ wpSeqI P ops Q S rest (a.put o.dst v) w') : wpSeqI P ops Q S ((false, o) :: rest) a w := by
  refine ⟨hw, ?_⟩
  unfold Oper.wp; rw [h]
  refine Calls.mono hc fun e w' he => ?_
  obtain ⟨v, rfl, hk⟩ := hR e w' he
  exact hk
/-- Any other operation. -/
theorem seqI_do {S : World → Prop} {o : Oper} {rest : List (Bool × Oper)} {a : Act} {w : World} (hw : Region.wanted o (yielded ops a.tmps) = true) (h : o.wp P a w (fun a' w' => S w' ∧ wpSeqI P ops Q S rest a' w') Q) : wpSeqI P ops Q S ((false, o) :: rest) a w := ⟨hw, h⟩
theorem seqI_nil {S : World → Prop} {a : Act} {w : World} (h : Q .normal a w) : wpSeqI P ops Q S [] a w := h

theorem seqI_held {S : World → Prop} {L : List Oper} (hs : Region.noSelect L.toArray = true) : ∀ (l : List (Bool × Nat)) (listed : Array Bool) (a : Act) (w : World), seqOkI L.toArray l listed = true → S w →
    wpSeqI P L.toArray Q S (seqOps L l) a w → wpAnyH P .any L.toArray Q S l.length listed a w
  | [], listed, a, w, hok, hS, h => wpAnyH_done (by simpa [seqOkI] using hok) h _
  | (true, i) :: l, listed, a, w, hok, hS, h => by
    obtain ⟨v, hy, hQ, h⟩ := h
    simp only [seqOkI, Bool.and_eq_true] at hok
    have ho : L.toArray[i]? = some (L.getD i noOper) := by
      have h1 := hok.1.1.1
      obtain ⟨o, ho⟩ := Option.isSome_iff_exists.1 h1
      rw [ho]
      have : L[i]? = some o := by simpa using ho
      rw [List.getD_eq_getElem?_getD, this]; rfl
    exact wpAnyH_take ho hs hok.1.1.2 hok.1.2 hQ hy hS (seqI_held hs l _ _ w hok.2 hS h)
  | (false, i) :: l, listed, a, w, hok, hS, h => by
    obtain ⟨hw, h⟩ := h
    simp only [seqOkI, Bool.and_eq_true, beq_iff_eq] at hok
    have ho : L.toArray[i]? = some (L.getD i noOper) := by
      have h1 := hok.1.1
      obtain ⟨o, ho⟩ := Option.isSome_iff_exists.1 h1
      rw [ho]
      have : L[i]? = some o := by simpa using ho
      rw [List.getD_eq_getElem?_getD, this]; rfl
    refine wpAnyH_all hok.1.2 (by simp) (fun j hj => ?_)
    simp only [List.mem_singleton] at hj
    subst hj
    unfold wpOp
    simp only [ho]
    rw [if_pos hw]
    exact Or.inl (Oper.wp_mono (fun a' w' h' => ⟨h'.1, seqI_held hs l _ a' w' hok.2 h'.1 h'.2⟩) h)

/-- **A region that draws, in a forced order.** -/
theorem region_seqI {S : World → Prop} {id : Nat} {L : List Oper} {a : Act} {w : World} (l : List (Bool × Nat)) (hm : P.follows .mixedOrders = true) (hs : Region.noSelect L.toArray = true) (hlen : l.length = L.toArray.size) (hok : seqOkI L.toArray l (Array.replicate L.toArray.size false) = true)
    (hS : S w.drew) (h : wpSeqI P L.toArray Q S (seqOps L l) a w.drew) : (Code.region id L.toArray true).wp P Q a w :=
  wp_region_held_drew (S := S) hm hS fun hS => by rw [← hlen] at hok ⊢; exact seqI_held hs l _ _ _ hok hS h
end
end Go.Proofs.YtleagenhnchjdaaGreatDoor

set_option linter.unusedVariables false
set_option linter.unusedSimpArgs false
namespace Go.Proofs.YtleagenhnchjdaaGreatDoor
open Go.RowKit

theorem digitsOf_l (s : List UInt8) (lo hi : Int) (w : World) (hs : s.length ≤ 1000000) : Calls Tryz.prog 94 #[.string ⟨s.toArray⟩, .int .i64 lo, .int .i64 hi] w fun e w' => e = .returned (.bool (digitsB s lo hi)) ∧ Below w.heap.size w w' := digitsOf_any ⟨s.toArray⟩ lo hi w (by show s.length ≤ _; omega)

theorem cat_str (x y : List UInt8) : ((⟨x.toArray⟩ : ByteArray) ++ ⟨y.toArray⟩) = ⟨(x ++ y).toArray⟩ := by
  apply ByteArray.ext
  simp
def ErrPost (x : Int) (w : World) (e : Ending) (w' : World) : Prop := e = .returned (.int .i64 x) ∧ Below w.heap.size w w'

end Go.Proofs.YtleagenhnchjdaaGreatDoor

set_option linter.unusedVariables false
set_option linter.unusedSimpArgs false
namespace Go.Proofs.YtleagenhnchjdaaGreatDoor
open Go.RowKit

theorem any_take {α : Type} (f : α → Bool) (d : α) (l : List α) (k : Nat) (hk : k < l.length) (h : f (l.getD k d) = true) (n : Nat) (hn : k < n) : (l.take n).any f = true := by
  rw [List.any_eq_true]
  refine ⟨l.getD k d, ?_, h⟩
  rw [List.getD_eq_getElem?_getD, List.getElem?_eq_getElem hk]
  exact List.mem_take_iff_getElem.2 ⟨k, by omega, rfl⟩
theorem not_any_take {α : Type} (f : α → Bool) (d : α) (l : List α) (n : Nat) (hn : n ≤ l.length) (h : ∀ k, k < n → f (l.getD k d) = false) : (l.take n).any f = false := by
  rw [List.any_eq_false]
  intro y hy
  obtain ⟨k, hk, rfl⟩ := List.mem_take_iff_getElem.1 hy
  have := h k (by omega)
  rw [List.getD_eq_getElem?_getD, List.getElem?_eq_getElem (by omega)] at this
  simpa using this

end Go.Proofs.YtleagenhnchjdaaGreatDoor

set_option linter.unusedVariables false
set_option linter.unusedSimpArgs false
namespace Go.Proofs.YtleagenhnchjdaaGreatDoor
open Go.RowKit

end Go.Proofs.YtleagenhnchjdaaGreatDoor

namespace Go.Proofs.YtleagenhnchjdaaGreatDoor
open Go.RowKit

theorem load_struct {P : Program} {w : World} {B k : Nat} (cs : List Value) (hk : cs.length = k) (hc : ∀ j v, cs[j]? = some v → w.cell? ⟨B, j, none⟩ = some v) :
    (loadCellsFrom ⟨B, 0, none⟩ 0 k #[]).run P w = .ok cs.toArray w :=
  run_loadCellsFrom_list P w ⟨B, 0, none⟩ cs k hk (fun j v hj => by
    rw [show (⟨B, 0, none⟩ : Addr).add j = ⟨B, j, none⟩ by unfold Addr.add; split <;> simp_all]; exact hc j v hj)

theorem results_cell2 {fn : Func} {t u : Tmp} {T : TypeId} (h : fn.results = #[.cell t T, .tmp u]) (P : Program) (w : World) (tmps : Array Value) {B k : Nat} (hA : ∀ w, (isAgg T).run P w = .ok true w) (hZ : ∀ w, (Go.sizeOf T).run P w = .ok k w) (ht : tmps.getD t undef = .pointer (some ⟨B, 0, none⟩)) (cs : List Value) (hk : cs.length = k) (hc : ∀ j v, cs[j]? = some v → w.cell? ⟨B, j, none⟩ = some v) :
    (results fn tmps).run P w = .ok (.tuple #[.agg cs.toArray, tmps.getD u undef]) w := by
  have h9 := load_struct (P := P) cs hk hc
  have ht' : tmps[t]?.getD undef = .pointer (some ⟨B, 0, none⟩) := by simpa using ht
  simp [results, h, ht', h9, hA, hZ, asAddr, go_sem]

theorem results_cell1 {fn : Func} {t : Tmp} {T : TypeId} (h : fn.results = #[.cell t T]) (P : Program) (w : World) (tmps : Array Value) {B k : Nat} (hA : ∀ w, (isAgg T).run P w = .ok true w) (hZ : ∀ w, (Go.sizeOf T).run P w = .ok k w) (ht : tmps.getD t undef = .pointer (some ⟨B, 0, none⟩)) (cs : List Value) (hk : cs.length = k) (hc : ∀ j v, cs[j]? = some v → w.cell? ⟨B, j, none⟩ = some v) :
    (results fn tmps).run P w = .ok (.agg cs.toArray) w := by
  have h9 := load_struct (P := P) cs hk hc
  have ht' : tmps[t]?.getD undef = .pointer (some ⟨B, 0, none⟩) := by simpa using ht
  simp [results, h, ht', h9, hA, hZ, asAddr, go_sem]

/-- Values that are stored one behind the other. -/
def setRow (w : World) (B : Nat) : Nat → List Value → World
  | _, [] => w
  | k, v :: vs => setRow (w.setCell ⟨B, k, none⟩ v) B (k + 1) vs

theorem setRow_low {B : Nat} : ∀ (vs : List Value) (w : World) (k j : Nat), j < k → (setRow w B k vs).cell? ⟨B, j, none⟩ = w.cell? ⟨B, j, none⟩
  | [], _, _, _, _ => rfl
  | v :: vs, w, k, j, h => by
    rw [setRow, setRow_low vs _ (k + 1) j (by omega)]
    exact World.cell?_setCell_other _ _ _ _ (by intro e; injection e with _ e2 _; omega)
theorem setRow_cell {B n : Nat} : ∀ (vs : List Value) (w : World) (k : Nat), (∀ j, j < n → ∃ u, w.cell? ⟨B, j, none⟩ = some u) → k + vs.length ≤ n → ∀ i v, vs[i]? = some v → (setRow w B k vs).cell? ⟨B, k + i, none⟩ = some v
  | [], _, _, _, _, _, _, h => by simp at h
  | x :: vs, w, k, hu, hn, i, v, h => by
    simp only [List.length_cons] at hn
    obtain ⟨u, hk⟩ := hu k (by omega)
    have hsame := World.cell?_setCell_same w ⟨B, k, none⟩ x hk
    cases i with
    | zero =>
      simp at h
      subst h
      rw [setRow, setRow_low vs _ (k + 1) _ (by omega)]
      exact hsame
    | succ i =>
      have := setRow_cell vs (w.setCell ⟨B, k, none⟩ x) (k + 1) (fun j hj => by
        by_cases e : j = k
        · subst e; exact ⟨x, hsame⟩
        · obtain ⟨u', hu'⟩ := hu j hj
          exact ⟨u', (World.cell?_setCell_other _ _ _ _ (by intro e9; injection e9 with _ e2 _; omega)).trans hu'⟩) (by omega) i v (by simpa using h)
      rw [setRow, show k + (i + 1) = k + 1 + i by omega]
      exact this
theorem setRow_ext {a : World} {B : Nat} (hB : a.heap.size ≤ B) : ∀ (vs : List Value) (w : World) (k : Nat), Below a.heap.size a w → Below a.heap.size a (setRow w B k vs)
  | [], _, _, h => h
  | _ :: vs, _, k, h => setRow_ext hB vs _ (k + 1) (ext_setCell h hB)
end Go.Proofs.YtleagenhnchjdaaGreatDoor

set_option linter.unusedVariables false
set_option linter.unusedSimpArgs false
namespace Go.Proofs.YtleagenhnchjdaaGreatDoor
open Go.RowKit

theorem extract_drop (l : List UInt8) (k : Nat) : (⟨l.toArray⟩ : ByteArray).extract k l.length = ⟨(l.drop k).toArray⟩ := by
  rw [Lib.extract_eq]
  simp [List.take_of_length_le]

theorem getD_bang {α : Type} [Inhabited α] (l : List α) (i : Nat) : l[i]! = l.getD i default := by
  rcases Nat.lt_or_ge i l.length with h | h
  · rw [getElem!_pos l i h]; simp [h]
  · rw [getElem!_neg l i (by omega)]; simp [List.getElem?_eq_none h]

theorem ctry_enc {w : World} {b off n : Nat} {l : List Ctry} (hl : n = l.length) (h : ∀ i, i < n → ∀ j, j < 4 → w.cell? ⟨b, off + i * 4 + j, none⟩ = (l.getD i noCtry).cells[j]?) : ∀ j, j < l.length → ∀ i v, (Ctry.cells l[j]!)[i]? = some v → w.cell? ⟨b, off + j * 4 + i, none⟩ = some v := by
  intro j hj i v hv
  have hi : i < 4 := by
    have := (List.getElem?_eq_some_iff.1 hv).1
    simpa [Ctry.cells] using this
  rw [h j (by omega) i hi, ← hv, getD_bang]
  rfl
theorem area_enc {w : World} {b off n : Nat} {l : List Area} (hl : n = l.length) (h : ∀ i, i < n → ∀ j, j < 3 → w.cell? ⟨b, off + i * 3 + j, none⟩ = (l.getD i noArea).cells[j]?) : ∀ j, j < l.length → ∀ i v, (Area.cells l[j]!)[i]? = some v → w.cell? ⟨b, off + j * 3 + i, none⟩ = some v := by
  intro j hj i v hv
  have hi : i < 3 := by
    have := (List.getElem?_eq_some_iff.1 hv).1
    simpa [Area.cells] using this
  rw [h j (by omega) i hi, ← hv, getD_bang]
  rfl

/-- The parts of a number, and more. -/
def SplPost (x : Spl) (w : World) (e : Ending) (w' : World) : Prop :=
  ∃ (y0 y1 y2 : ByteArray) (ya : Option Addr) (yn yc : Nat) (y4 : ByteArray) (y5 y6 : Int), e = .returned (.tuple #[.agg #[.string ⟨x.code.toArray⟩, .string ⟨x.area.toArray⟩, .string ⟨x.rest.toArray⟩, .string y0, .string y1, .string y2, .slice ya yn yc, .string y4, .int .i64 y5, .int .i64 y6], .int .i64 x.err]) ∧ Below w.heap.size w w'

theorem isNumber_l (s : List UInt8) (w : World) (hs : s.length ≤ 1000000) : Calls Tryz.prog 48 #[.string ⟨s.toArray⟩] w fun e w' => e = .returned (.bool (isNumB s)) ∧ Below w.heap.size w w' := isNumber_any ⟨s.toArray⟩ w (by show s.length ≤ _; omega)

theorem num_len {n : List UInt8} (h : isNumB n = true) : 5 ≤ n.length ∧ n.length ≤ 16 := by
  obtain ⟨d, rfl, hd⟩ := plus_head h
  unfold digitsB at hd
  simp only [Bool.and_eq_true, decide_eq_true_eq] at hd
  simp only [List.length_cons]
  omega

theorem pre_len {a b : List UInt8} (h : Lib.hasPrefix a b = true) : b.length ≤ a.length := by
  unfold Lib.hasPrefix at h
  rw [List.isPrefixOf_iff_prefix] at h
  exact h.length_le

def zeroParts : Array Value := #[.string ⟨#[]⟩, .string ⟨#[]⟩, .string ⟨#[]⟩, .string ⟨#[]⟩, .string ⟨#[]⟩, .string ⟨#[]⟩, .slice none 0 0, .string ⟨#[]⟩, .int .i64 0, .int .i64 0]

theorem zero_one : zeroParts.all (·.oneCell') = true := by simp [zeroParts, Value.oneCell']
theorem there_below {w w' : World} {B o n : Nat} (h : w.there B o n) (hB : B < w.heap.size) (hb : Below w.heap.size w w') : w'.there B o n := fun j hj => by
  obtain ⟨qc, qf⟩ := bcell hb
  exact ⟨by rw [qc B _ hB]; exact (h j hj).1, by rw [qf B _ hB]; exact (h j hj).2⟩
theorem setCells_ext {a : World} {B : Nat} (hB : a.heap.size ≤ B) : ∀ (vs : List Value) (w : World) (k : Nat), Below a.heap.size a w → Below a.heap.size a (w.setCells B k vs)
  | [], _, _, h => h
  | _ :: vs, _, k, h => setCells_ext hB vs _ (k + 1) (ext_setCell h hB)

end Go.Proofs.YtleagenhnchjdaaGreatDoor

set_option linter.unusedVariables false
set_option linter.unusedSimpArgs false
namespace Go.Proofs.YtleagenhnchjdaaGreatDoor
open Go.RowKit

def digs (l : List UInt8) : Bool := l.all fun c => decide (48 ≤ c.toNat) && decide (c.toNat ≤ 57)
theorem digs_app (a b : List UInt8) : digs (a ++ b) = (digs a && digs b) := by simp [digs, List.all_append]

theorem plan_area {l : List Ctry} (h : planErr l = 0) : ∀ i, i < l.length → ∀ z, z < (l.getD i noCtry).areas.length → areaErr (l.getD i noCtry) z = 0 := by
  unfold planErr at h
  split at h
  · cases h
  intro i hi z hz
  have := first_zero h i hi
  unfold partErr at this
  split at this
  · rename_i h1; exact absurd this h1
  · exact first_zero this z hz
theorem area_parts {c : Ctry} {z : Nat} (h : areaErr c z = 0) : digitsB (c.areas.getD z noArea).pre 1 8 = true ∧ Lib.hasPrefix (c.trunk ++ (c.areas.getD z noArea).pre) c.abroad = false ∧ Lib.hasPrefix c.abroad (c.trunk ++ (c.areas.getD z noArea).pre) = false ∧ (((c.areas.getD z noArea).pre.length : Int) < (c.areas.getD z noArea).low ∧ (c.areas.getD z noArea).low ≤ (c.areas.getD z noArea).high ∧ (c.areas.getD z noArea).high ≤ 15 - (c.code.length : Int) ∧ 4 - (c.code.length : Int) ≤ (c.areas.getD z noArea).low) := by
  unfold areaErr areaErrOf at h
  generalize c.areas.getD z noArea = a at h ⊢
  split at h
  · cases h
  rename_i h1
  split at h
  · cases h
  split at h
  · cases h
  rename_i h3
  split at h
  · cases h
  rename_i h4
  simp only [Bool.or_eq_true, not_or, Bool.not_eq_true] at h3
  have h4' : areaBad c.code a.pre a.low a.high = false := by simpa using h4
  unfold areaBad at h4'
  simp only [Bool.or_eq_false_iff, decide_eq_false_iff_not] at h4'
  exact ⟨by simpa using h1, h3.2.1, h3.2.2, by omega⟩

end Go.Proofs.YtleagenhnchjdaaGreatDoor

set_option linter.unusedVariables false
set_option linter.unusedSimpArgs false
namespace Go.Proofs.YtleagenhnchjdaaGreatDoor
open Go.RowKit

def keyTab : List UInt8 := [50, 50, 50, 51, 51, 51, 52, 52, 52, 53, 53, 53, 54, 54, 54, 55, 55, 55, 55, 56, 56, 56, 57, 57, 57, 57]
/-- The digit of a letter or digit; 0: there is none. -/
def keyN (c : Nat) : Nat := if 48 ≤ c ∧ c ≤ 57 then c else if 65 ≤ c ∧ c ≤ 90 then (keyTab.getD (c - 65) 0).toNat else if 97 ≤ c ∧ c ≤ 122 then (keyTab.getD (c - 97) 0).toNat else 0
def keyB (c : UInt8) : UInt8 := UInt8.ofNat (keyN c.toNat)
def keysB (s : List UInt8) : Option (List UInt8) := if s.any (fun c => keyB c == 0) then none else some (s.map keyB)
def sepB (c : UInt8) : Bool := [32, 45, 46, 47, 40, 41].contains c
def readB : List UInt8 → List UInt8 → Option (List UInt8)
  | [], o => some o
  | c :: s, o => if sepB c then readB s o else if keyB c ≠ 0 then readB s (o ++ [keyB c]) else if c = 43 ∧ o = [] then readB s (o ++ [c]) else none
def groupsB (s : List UInt8) : List UInt8 := if h : 4 < s.length then s.take 3 ++ 45 :: groupsB (s.drop 3) else s
termination_by s.length
decreasing_by simp; omega
theorem groups_more {s : List UInt8} (h : 4 < s.length) : groupsB s = s.take 3 ++ 45 :: groupsB (s.drop 3) := by rw [groupsB, dif_pos h]
theorem groups_end {s : List UInt8} (h : ¬ 4 < s.length) : groupsB s = s := by rw [groupsB, dif_neg h]
theorem groups_len : ∀ (n : Nat) (s : List UInt8), s.length ≤ n → (groupsB s).length ≤ 2 * s.length := by
  intro n
  induction n with
  | zero => intro s h; rw [groups_end (by omega)]; omega
  | succ n ih =>
    intro s h
    by_cases hl : 4 < s.length
    · have := ih (s.drop 3) (by simp; omega)
      rw [groups_more hl]
      simp at this ⊢
      omega
    · rw [groups_end hl]; omega

theorem keyN_lt (c : Nat) (h : c < 256) : keyN c < 256 := by
  unfold keyN
  split
  · exact h
  · split
    · exact UInt8.toNat_lt _
    · split
      · exact UInt8.toNat_lt _
      · omega
theorem keyB_nat (c : UInt8) : (keyB c).toNat = keyN c.toNat := by
  unfold keyB
  rw [UInt8.toNat_ofNat']
  exact Nat.mod_eq_of_lt (keyN_lt _ (UInt8.toNat_lt c))
theorem all_bytes {p : UInt8 → Bool} (h : ((List.range 256).all fun i => p (UInt8.ofNat i)) = true) (c : UInt8) : p c = true := by
  have := List.all_eq_true.1 h c.toNat (List.mem_range.2 (UInt8.toNat_lt c))
  simpa using this
theorem sep_key (c : UInt8) (h : sepB c = true) : keyB c = 0 ∧ c ≠ 43 := by
  have := all_bytes (p := fun c => !(sepB c) || (keyB c == 0 && c != 43)) (by decide +kernel) c
  simp [h] at this
  exact this

/-! ### Homes -/
def homeC (l : List Ctry) (code area : List UInt8) : Option Ctry := l.find? fun c => c.code == code && (area == [] || c.areas.any fun a => a.pre == area)
def homeR (l : List Ctry) (code area : List UInt8) : Option Ctry := (l.find? fun c => c.code == code).bind fun c => if (area == [] || c.areas.any fun a => a.pre == area) = true then some c else none
theorem codes_apart {l : List Ctry} (h : planErr l = 0) {i j : Nat} (hi : i < l.length) (hj : j < l.length) (hn : i ≠ j) : (l.getD i noCtry).code ≠ (l.getD j noCtry).code := by
  intro e
  rcases Nat.lt_or_gt_of_ne hn with hlt | hlt
  · have := plan_order h i j hlt hj
    rw [e, less_irrefl] at this
    cases this
  · have := plan_order h j i hlt hi
    rw [e, less_irrefl] at this
    cases this
theorem find_apart {α : Type} (l : List α) (p q : α → Bool) (h : l.Pairwise fun c d => p c = true → p d = false) : (l.find? fun c => p c && q c) = (l.find? p).bind fun c => if q c = true then some c else none := by
  induction l with
  | nil => rfl
  | cons x xs ih =>
    have h0 := List.pairwise_cons.1 h
    have h1 := h0.1
    have h2 := ih h0.2
    rw [List.find?_cons, List.find?_cons]
    cases hp : p x with
    | false => simpa [hp] using h2
    | true =>
      cases hq : q x with
      | true => simp [hp, hq]
      | false =>
        simp only [hp, hq, Bool.true_and, Option.bind_some, Bool.false_eq_true, if_false]
        rw [List.find?_eq_none]
        intro y hy
        simp [h1 y hy hp]
theorem home_same {l : List Ctry} (code area : List UInt8) (h : planErr l = 0) : homeC l code area = homeR l code area := by
  unfold homeC homeR
  refine find_apart l (fun c => c.code == code) (fun c => area == [] || c.areas.any fun a => a.pre == area) ?_
  rw [List.pairwise_iff_getElem]
  intro i j hi hj hij hc
  have := codes_apart h hi hj (by omega)
  simp only [List.getD_eq_getElem?_getD, List.getElem?_eq_getElem hi, List.getElem?_eq_getElem hj, Option.getD_some] at this
  simp only [beq_iff_eq] at hc
  have h3 : ¬ (l[j].code = code) := fun e => this (hc.trans e.symm)
  simpa using h3

/-! ### What is reached -/
def reachN (c : Ctry) (area d : List UInt8) : Option (List UInt8) :=
  if Lib.hasPrefix d c.abroad = true then some (43 :: d.drop c.abroad.length)
  else if Lib.hasPrefix d c.trunk = true then some (43 :: (c.code ++ d.drop c.trunk.length))
  else if area ≠ [] then some (43 :: (c.code ++ area ++ d)) else none
/-- The number that is reached, or an error. -/
def reachP (l : List Ctry) (c : Ctry) (area d : List UInt8) : Int × List UInt8 :=
  if digitsB d 1 30 = false then (3, []) else match reachN c area d with
    | none => (8, [])
    | some n => if (splitP l n).err ≠ 0 then ((splitP l n).err, []) else (0, n)

def formPre (c : Ctry) (x : Spl) : List UInt8 := if x.code = c.code then 40 :: (c.trunk ++ x.area ++ [41, 32]) else 43 :: (x.code ++ 32 :: (x.area ++ [32]))
def formP (c : Ctry) (x : Spl) : List UInt8 := formPre c x ++ groupsB x.rest
/-- What is read out of a form. -/
def readP (l : List Ctry) (c : Ctry) (area s : List UInt8) : Int × List UInt8 :=
  if 60 < s.length then (2, []) else match readB s [] with
    | none => (9, [])
    | some [] => (9, [])
    | some (x :: n) => if x = 43 then (if (splitP l (x :: n)).err ≠ 0 then ((splitP l (x :: n)).err, []) else (0, x :: n)) else if 30 < (x :: n).length then (2, []) else reachP l c area (x :: n)
end Go.Proofs.YtleagenhnchjdaaGreatDoor

set_option linter.unusedVariables false
set_option linter.unusedSimpArgs false
namespace Go.Proofs.YtleagenhnchjdaaGreatDoor
open Go.RowKit

theorem drop_nil (p : UInt8 → Bool) : ∀ l : List UInt8, l.dropWhile p = [] ↔ ∀ x ∈ l, p x = true
  | [] => by simp
  | a :: l => by
    rw [List.dropWhile_cons]
    cases h : p a with
    | false => simp [h]
    | true => simp [h, drop_nil p l]
theorem take_all (p : UInt8 → Bool) : ∀ (l : List UInt8) (x : UInt8), x ∈ l.takeWhile p → p x = true
  | [], x, h => by simp at h
  | a :: l, x, h => by
    rw [List.takeWhile_cons] at h
    cases hp : p a with
    | false => simp [hp] at h
    | true =>
      simp only [hp, if_true, List.mem_cons] at h
      rcases h with rfl | h
      · exact hp
      · exact take_all p l x h
theorem allIn_all (l cs : List UInt8) : allIn l cs = l.all (cs.contains ·) := by
  unfold allIn Lib.trimS Lib.trimRightS Lib.trimLeftS
  rw [Bool.eq_iff_iff, List.isEmpty_iff, drop_nil, List.all_eq_true]
  constructor
  · intro h x hx
    have hx2 : x ∈ l.reverse := by simpa using hx
    rw [← List.takeWhile_append_dropWhile (p := (cs.contains ·)) (l := l.reverse), List.mem_append] at hx2
    rcases hx2 with h1 | h1
    · exact take_all _ _ _ h1
    · exact h x (by simpa using h1)
  · intro h x hx
    exact h x (by simpa using (List.dropWhile_sublist (cs.contains ·)).mem (List.mem_reverse.1 hx))
theorem allIn_app (a b cs : List UInt8) : allIn (a ++ b) cs = (allIn a cs && allIn b cs) := by simp [allIn_all, List.all_append]
theorem digs_in (l : List UInt8) : allIn l digitSet = digs l := by
  rw [allIn_all]
  unfold digs
  congr 1
  funext c
  have := all_bytes (p := fun c => (digitSet.contains c) == (decide (48 ≤ c.toNat) && decide (c.toNat ≤ 57))) (by decide +kernel) c
  simpa using this
theorem digitsB_iff (l : List UInt8) (lo hi : Int) : digitsB l lo hi = true ↔ lo ≤ l.length ∧ (l.length : Int) ≤ hi ∧ digs l = true := by
  unfold digitsB
  rw [digs_in]
  simp only [Bool.and_eq_true, decide_eq_true_eq]

theorem ctry_form {l : List Ctry} {i : Nat} (h : ctryErr l i = 0) : digitsB (l.getD i noCtry).code 1 3 = true ∧ ((l.getD i noCtry).code.headD 0 == 48) = false ∧ digitsB (l.getD i noCtry).abroad 1 4 = true ∧ digitsB (l.getD i noCtry).trunk 0 2 = true ∧ Lib.hasPrefix (l.getD i noCtry).trunk (l.getD i noCtry).abroad = false := by
  unfold ctryErr ctryErrOf at h
  generalize l.getD i noCtry = c at h ⊢
  generalize l.getD (i - 1) noCtry = p at h ⊢
  split at h
  · cases h
  rename_i h1
  split at h
  · cases h
  rename_i h2
  split at h
  · cases h
  split at h
  · cases h
  split at h
  · cases h
  rename_i h5
  split at h
  · cases h
  rename_i h6
  split at h
  · cases h
  rename_i h7
  exact ⟨by simpa using h1, by simpa using h2, by simpa using h5, by simpa using h6, by simpa using h7⟩

/-! ### Prefixes -/
theorem pre_iff (a p : List UInt8) : Lib.hasPrefix a p = true ↔ p <+: a := by unfold Lib.hasPrefix; exact List.isPrefixOf_iff_prefix
theorem pre_append (p t : List UInt8) : Lib.hasPrefix (p ++ t) p = true := (pre_iff _ _).2 (List.prefix_append _ _)
theorem pre_or {a t p : List UInt8} (h : Lib.hasPrefix (a ++ t) p = true) : Lib.hasPrefix a p = true ∨ Lib.hasPrefix p a = true := by
  rcases List.prefix_or_prefix_of_prefix ((pre_iff _ _).1 h) (List.prefix_append a t) with h1 | h1
  · exact Or.inl ((pre_iff _ _).2 h1)
  · exact Or.inr ((pre_iff _ _).2 h1)
theorem less_between : ∀ {p x s : List UInt8}, Op.bytesLess p x = true → Op.bytesLess x (p ++ s) = true → Lib.hasPrefix x p = true
  | [], x, s, _, _ => by cases x <;> rfl
  | a :: p, [], s, h, _ => by rw [less_nil] at h; cases h
  | a :: p, b :: x, s, h, k => by
    rw [List.cons_append] at k
    rw [less_cons] at h k
    simp only [Bool.or_eq_true, decide_eq_true_eq, Bool.and_eq_true, beq_iff_eq] at h k
    have hab : a = b := by
      rcases h with h | ⟨rfl, _⟩
      · rcases k with k | ⟨rfl, _⟩
        · exact absurd (UInt8.lt_trans h k) (UInt8.lt_irrefl _)
        · exact absurd h (UInt8.lt_irrefl _)
      · rfl
    subst hab
    have h2 : Op.bytesLess p x = true := by
      rcases h with h | h
      · exact absurd h (UInt8.lt_irrefl _)
      · exact h.2
    have k2 : Op.bytesLess x (p ++ s) = true := by
      rcases k with k | k
      · exact absurd k (UInt8.lt_irrefl _)
      · exact k.2
    have := less_between h2 k2
    rw [pre_iff] at this ⊢
    exact List.cons_prefix_cons.2 ⟨rfl, this⟩
theorem area_next {c : Ctry} {z : Nat} (h : areaErr c (z + 1) = 0) : Op.bytesLess (c.areas.getD z noArea).pre (c.areas.getD (z + 1) noArea).pre = true ∧ Lib.hasPrefix (c.areas.getD (z + 1) noArea).pre (c.areas.getD z noArea).pre = false := by
  unfold areaErr areaErrOf prevArea at h
  simp only [Nat.add_sub_cancel] at h
  generalize c.areas.getD (z + 1) noArea = a at h ⊢
  generalize c.areas.getD z noArea = p at h ⊢
  split at h
  · cases h
  split at h
  · cases h
  rename_i h2
  split at h
  · cases h
  rename_i h3
  simp at h2 h3
  exact ⟨less_of_leS h2, h3.1⟩
/-- Areas of a right country: in order, and none begins with another. -/
theorem areas_order {c : Ctry} (h : ∀ z, z < c.areas.length → areaErr c z = 0) : ∀ i d, i + 1 + d < c.areas.length → Op.bytesLess (c.areas.getD i noArea).pre (c.areas.getD (i + 1 + d) noArea).pre = true := by
  intro i d
  induction d with
  | zero => intro hj; exact (area_next (h _ hj)).1
  | succ d ih =>
    intro hj
    exact less_trans (ih (by omega)) (area_next (h _ hj)).1
theorem areas_apart {c : Ctry} (h : ∀ z, z < c.areas.length → areaErr c z = 0) {i j : Nat} (hi : i < c.areas.length) (hj : j < c.areas.length) (hp : Lib.hasPrefix (c.areas.getD j noArea).pre (c.areas.getD i noArea).pre = true) : i = j := by
  rcases Nat.lt_trichotomy i j with hlt | rfl | hlt
  · exfalso
    obtain ⟨d, rfl⟩ : ∃ d, j = i + 1 + d := ⟨j - (i + 1), by omega⟩
    have h1 := area_next (h (i + 1) (by omega))
    cases d with
    | zero => rw [Nat.add_zero] at hp; rw [h1.2] at hp; cases hp
    | succ d =>
      have h2 := areas_order h (i + 1) d (by omega)
      rw [show i + 1 + 1 + d = i + 1 + (d + 1) by omega] at h2
      obtain ⟨t, ht⟩ := (pre_iff _ _).1 hp
      rw [← ht] at h2
      rw [less_between h1.1 h2] at h1
      cases h1.2
  · rfl
  · exfalso
    obtain ⟨d, rfl⟩ : ∃ d, i = j + 1 + d := ⟨i - (j + 1), by omega⟩
    have h2 := areas_order h j d (by omega)
    obtain ⟨t, ht⟩ := (pre_iff _ _).1 hp
    rw [← ht, less_app] at h2
    cases h2

/-! ### A number that is split -/
structure SplitOk (l : List Ctry) (n : List UInt8) (i j : Nat) : Prop where
  li : i < l.length
  lj : j < (l.getD i noCtry).areas.length
  form : n = 43 :: ((l.getD i noCtry).code ++ (((l.getD i noCtry).areas.getD j noArea).pre ++ (splitP l n).rest))
  code : (splitP l n).code = (l.getD i noCtry).code
  area : (splitP l n).area = ((l.getD i noCtry).areas.getD j noArea).pre
  low : ((l.getD i noCtry).areas.getD j noArea).low ≤ (((l.getD i noCtry).areas.getD j noArea).pre.length : Int) + (splitP l n).rest.length
  high : (((l.getD i noCtry).areas.getD j noArea).pre.length : Int) + (splitP l n).rest.length ≤ ((l.getD i noCtry).areas.getD j noArea).high
  digits : digitsB (n.drop 1) 4 15 = true
theorem split_ok {l : List Ctry} {n : List UInt8} (h : (splitP l n).err = 0) : ∃ i j, SplitOk l n i j := by
  have h0 := h
  unfold splitP at h
  split at h
  · cases h
  rename_i hn
  have hn : isNumB n = true := by simpa using hn
  obtain ⟨d, hd, hdig⟩ := plus_head hn
  have hX : splitP l n = splitIn l n := by unfold splitP; rw [if_neg (by simp [hn])]
  unfold splitIn at h hX
  cases hf : l.find? fun c => Lib.hasPrefix (n.drop 1) c.code with
  | none => rw [hf] at h; cases h
  | some c =>
    rw [hf] at h hX
    simp only [Option.bind_some] at h hX
    have hpc := List.find?_some hf
    obtain ⟨i, hi, hic⟩ := List.getElem_of_mem (List.mem_of_find?_eq_some hf)
    have hic' : l.getD i noCtry = c := by simpa [hi] using hic
    unfold inAreas at h hX
    cases hg : c.areas.find? fun a => Lib.hasPrefix (n.drop (1 + c.code.length)) a.pre with
    | none => rw [hg] at h; cases h
    | some a =>
      rw [hg] at h hX
      simp only [Option.map_some, Option.getD_some] at h hX
      have hpa := List.find?_some hg
      obtain ⟨j, hj, hja⟩ := List.getElem_of_mem (List.mem_of_find?_eq_some hg)
      have hja' : c.areas.getD j noArea = a := by simpa [hj] using hja
      unfold inArea at h hX
      split at h
      · cases h
      rename_i hlen
      rw [if_neg hlen] at hX
      simp only [Bool.or_eq_true, decide_eq_true_eq, not_or, Int.not_lt] at hlen
      subst hd
      simp only [List.drop_succ_cons, List.drop_zero, Nat.add_comm 1] at hpc hpa hX hlen
      obtain ⟨t, ht⟩ := (pre_iff _ _).1 hpc
      subst ht
      rw [List.drop_left] at hpa hX hlen
      obtain ⟨r, hr⟩ := (pre_iff _ _).1 hpa
      subst hr
      rw [List.drop_left] at hX
      refine ⟨i, j, ⟨hi, by rw [hic']; exact hj, ?_, ?_, ?_, ?_, ?_, by simpa using hdig⟩⟩
      · rw [hX, hic', hja']
      · rw [hX, hic']
      · rw [hX, hic', hja']
      · rw [hX, hic', hja']; simp only [List.length_append] at hlen; simp only; omega
      · rw [hX, hic', hja']; simp only [List.length_append] at hlen; simp only; omega
end Go.Proofs.YtleagenhnchjdaaGreatDoor

set_option linter.unusedVariables false
set_option linter.unusedSimpArgs false
namespace Go.Proofs.YtleagenhnchjdaaGreatDoor
open Go.RowKit

/-- Members alone count: strictly ordered lists. -/
theorem strict_unique : ∀ {x y : List (List UInt8)}, x.Pairwise (· < ·) → y.Pairwise (· < ·) → (∀ z, z ∈ x ↔ z ∈ y) → x = y
  | [], [], _, _, _ => rfl
  | [], b :: y, _, _, h => by have := (h b).2 List.mem_cons_self; cases this
  | a :: x, [], _, _, h => by have := (h a).1 List.mem_cons_self; cases this
  | a :: x, b :: y, hx, hy, h => by
    rw [List.pairwise_cons] at hx hy
    have hab : a = b := by
      rcases List.mem_cons.1 ((h a).1 List.mem_cons_self) with h1 | h1
      · exact h1
      · rcases List.mem_cons.1 ((h b).2 List.mem_cons_self) with h2 | h2
        · exact h2.symm
        · exact absurd (List.lt_trans (hy.1 a h1) (hx.1 b h2)) (List.lt_irrefl b)
    subst hab
    have ht : x = y := by
      refine strict_unique hx.2 hy.2 fun z => ⟨fun hz => ?_, fun hz => ?_⟩
      · rcases List.mem_cons.1 ((h z).1 (List.mem_cons_of_mem _ hz)) with h1 | h1
        · subst h1; exact absurd (hx.1 z hz) (List.lt_irrefl z)
        · exact h1
      · rcases List.mem_cons.1 ((h z).2 (List.mem_cons_of_mem _ hz)) with h1 | h1
        · subst h1; exact absurd (hy.1 z hz) (List.lt_irrefl z)
        · exact h1
    rw [ht]
theorem mem_upTo (d : Array (List UInt8)) (x : List UInt8) : ∀ m, x ∈ Lib.compactUpTo d m ↔ ∃ j, j < m ∧ d[j]! = x
  | 0 => by simp [Lib.compactUpTo]
  | m + 1 => by
    rw [Lib.compactUpTo_succ, List.mem_append, mem_upTo d x m]
    refine ⟨fun h => ?_, fun h => ?_⟩
    · rcases h with ⟨j, h1, h2⟩ | h
      · exact ⟨j, by omega, h2⟩
      · split at h
        · exact ⟨m, by omega, (List.mem_singleton.1 h).symm⟩
        · cases h
    · obtain ⟨j, h1, h2⟩ := h
      rcases Nat.lt_succ_iff_lt_or_eq.1 h1 with h3 | rfl
      · exact Or.inl ⟨j, h3, h2⟩
      · cases hk : Lib.keeps d j with
        | true => right; rw [if_pos rfl]; exact List.mem_singleton.2 h2.symm
        | false =>
          left
          simp only [Lib.keeps, decide_eq_false_iff_not, not_or, ne_eq, Decidable.not_not] at hk
          exact ⟨j - 1, by omega, by rw [← hk.2]; exact h2⟩
theorem mem_compact (zs : List (List UInt8)) (x : List UInt8) : x ∈ Lib.compact zs ↔ x ∈ zs := by
  unfold Lib.compact
  rw [mem_upTo]
  refine ⟨fun ⟨j, h1, h2⟩ => ?_, fun h => ?_⟩
  · rw [← h2]
    simp [h1]
  · obtain ⟨j, h1, h2⟩ := List.getElem_of_mem h
    exact ⟨j, h1, by simp [h1, h2]⟩
theorem upTo_strict (d : Array (List UInt8)) (hd : ∀ i j, i ≤ j → j < d.size → d[i]! ≤ d[j]!) : ∀ m, m ≤ d.size → (Lib.compactUpTo d m).Pairwise (· < ·)
  | 0, _ => by simp [Lib.compactUpTo]
  | m + 1, hm => by
    rw [Lib.compactUpTo_succ]
    have ih := upTo_strict d hd m (by omega)
    cases hk : Lib.keeps d m with
    | false => simpa using ih
    | true =>
      rw [if_pos rfl, List.pairwise_append]
      refine ⟨ih, by simp, fun a ha b hb => ?_⟩
      obtain ⟨j, h1, rfl⟩ := (mem_upTo d a m).1 ha
      rw [List.mem_singleton.1 hb]
      simp only [Lib.keeps, decide_eq_true_eq] at hk
      rcases hk with h0 | hne
      · omega
      · have h2 := hd j (m - 1) (by omega) (by omega)
        have h3 := hd (m - 1) m (by omega) (by omega)
        have h4 : d[m - 1]! < d[m]! := Decidable.byContradiction fun hn => hne (List.le_antisymm (List.not_lt.1 hn) h3)
        exact List.lt_of_le_of_lt h2 h4
theorem compact_strict (zs : List (List UInt8)) (h : zs.Pairwise (fun a b => leB a b = true)) : (Lib.compact zs).Pairwise (· < ·) := by
  unfold Lib.compact
  refine upTo_strict _ (fun i j hij hj => ?_) _ (by simp)
  have hj' : j < zs.length := by simpa using hj
  rcases Nat.lt_or_eq_of_le hij with h1 | rfl
  · have h2 := List.pairwise_iff_getElem.1 h i j (by omega) hj' h1
    simp only [leB, decide_eq_true_eq] at h2
    simpa [hj', show i < zs.length by omega] using h2
  · exact List.le_refl _
/-- Sorted, each once. -/
def onceL (zs : List (List UInt8)) : List (List UInt8) := Lib.compact (zs.mergeSort leB)
theorem once_same {x y : List (List UInt8)} (h : ∀ z, z ∈ x ↔ z ∈ y) : onceL x = onceL y := by
  have tr : ∀ a b c : List UInt8, leB a b = true → leB b c = true → leB a c = true := fun a b c h1 h2 => by simp only [leB, decide_eq_true_eq] at *; exact List.le_trans h1 h2
  have tot : ∀ a b : List UInt8, (leB a b || leB b a) = true := fun a b => by simp only [leB, Bool.or_eq_true, decide_eq_true_eq]; exact List.le_total a b
  refine strict_unique (compact_strict _ (List.pairwise_mergeSort tr tot x)) (compact_strict _ (List.pairwise_mergeSort tr tot y)) fun z => ?_
  unfold onceL
  rw [mem_compact, mem_compact, List.mem_mergeSort, List.mem_mergeSort]
  exact h z

/-- The digits, in order. -/
def tenD : List UInt8 := [48, 49, 50, 51, 52, 53, 54, 55, 56, 57]
theorem mem_ten (x : UInt8) : x ∈ tenD ↔ 48 ≤ x.toNat ∧ x.toNat ≤ 57 := by
  have h : ∀ n : Nat, n < 256 → ((UInt8.ofNat n ∈ tenD) ↔ 48 ≤ (UInt8.ofNat n).toNat ∧ (UInt8.ofNat n).toNat ≤ 57) := by decide +kernel
  have := h x.toNat x.toNat_lt
  simpa using this
def moreAt (a : List UInt8) (i : Nat) (d : UInt8) : List UInt8 := a.take i ++ d :: a.drop i
def otherAt (a : List UInt8) (i : Nat) (d : UInt8) : List UInt8 := a.take i ++ d :: a.drop (i + 1)
def lostAt (a : List UInt8) (i : Nat) : List UInt8 := a.take i ++ a.drop (i + 1)
def turnAt (a : List UInt8) (i : Nat) : List UInt8 := a.take i ++ (a.getD (i + 1) 0 :: a.getD i 0 :: a.drop (i + 2))
/-- What one place and one digit give. -/
def slipStep (a : List UInt8) (kind : Nat) (i : Nat) (d : UInt8) : List (List UInt8) :=
  if kind = 5 then [moreAt a i d] else if i = a.length then [] else if kind = 2 then [otherAt a i d] else if kind = 4 then [lostAt a i] else if kind = 3 ∧ i + 1 < a.length then [turnAt a i] else []
def slipRow (a : List UInt8) (kind i : Nat) (ds : List UInt8) : List (List UInt8) := ds.flatMap (slipStep a kind i)
def slipsTo (a : List UInt8) (kind k : Nat) : List (List UInt8) := (List.range k).flatMap fun i => slipRow a kind i tenD
theorem slipsTo_succ (a : List UInt8) (kind k : Nat) : slipsTo a kind (k + 1) = slipsTo a kind k ++ slipRow a kind k tenD := by
  unfold slipsTo
  rw [List.range_succ, List.flatMap_append]
  simp
def slipsL (a : List UInt8) (kind : Nat) : List (List UInt8) := slipsTo a kind (a.length + 1)
theorem mem_slips (a : List UInt8) (kind : Nat) (x : List UInt8) : x ∈ slipsL a kind ↔ ∃ i d, i ≤ a.length ∧ d ∈ tenD ∧ x ∈ slipStep a kind i d := by
  unfold slipsL slipsTo slipRow
  simp only [List.mem_flatMap, List.mem_range]
  refine ⟨fun ⟨i, h1, d, h2, h3⟩ => ⟨i, d, by omega, h2, h3⟩, fun ⟨i, d, h1, h2, h3⟩ => ⟨i, by omega, d, h2, h3⟩⟩
theorem mem_more (a x : List UInt8) : x ∈ slipsL a 5 ↔ ∃ i d, i ≤ a.length ∧ d ∈ tenD ∧ x = moreAt a i d := by
  rw [mem_slips]; simp [slipStep]
theorem mem_other (a x : List UInt8) : x ∈ slipsL a 2 ↔ ∃ i d, i < a.length ∧ d ∈ tenD ∧ x = otherAt a i d := by
  rw [mem_slips]
  refine ⟨fun ⟨i, d, h1, h2, h3⟩ => ?_, fun ⟨i, d, h1, h2, h3⟩ => ⟨i, d, by omega, h2, ?_⟩⟩
  · by_cases hi : i = a.length
    · simp [slipStep, hi] at h3
    · simp [slipStep, hi] at h3
      exact ⟨i, d, by omega, h2, h3⟩
  · simp [slipStep, show ¬ i = a.length by omega, h3]
theorem mem_lost (a x : List UInt8) : x ∈ slipsL a 4 ↔ ∃ i, i < a.length ∧ x = lostAt a i := by
  rw [mem_slips]
  refine ⟨fun ⟨i, d, h1, h2, h3⟩ => ?_, fun ⟨i, h1, h3⟩ => ⟨i, 48, by omega, by decide, ?_⟩⟩
  · by_cases hi : i = a.length
    · simp [slipStep, hi] at h3
    · simp [slipStep, hi] at h3
      exact ⟨i, by omega, h3⟩
  · simp [slipStep, show ¬ i = a.length by omega, h3]
theorem mem_turn (a x : List UInt8) : x ∈ slipsL a 3 ↔ ∃ i, i + 1 < a.length ∧ x = turnAt a i := by
  rw [mem_slips]
  refine ⟨fun ⟨i, d, h1, h2, h3⟩ => ?_, fun ⟨i, h1, h3⟩ => ⟨i, 48, by omega, by decide, ?_⟩⟩
  · by_cases hi : i = a.length
    · simp [slipStep, hi] at h3
    · by_cases h4 : i + 1 < a.length
      · simp [slipStep, hi, h4] at h3
        exact ⟨i, h4, h3⟩
      · simp [slipStep, hi, h4] at h3
  · simp [slipStep, show ¬ i = a.length by omega, h1, h3]
def slipR (a b : List UInt8) : Nat := if a = b then 1 else if b ∈ slipsL a 2 then 2 else if b ∈ slipsL a 3 then 3 else if b ∈ slipsL a 4 then 4 else if b ∈ slipsL a 5 then 5 else 0
/-- How many of the first k places differ. -/
def diffTo (a b : List UInt8) : Nat → Nat
  | 0 => 0
  | k + 1 => diffTo a b k + if a.getD k 0 = b.getD k 0 then 0 else 1
theorem diff_le (a b : List UInt8) : ∀ k, diffTo a b k ≤ k
  | 0 => Nat.le_refl _
  | k + 1 => by have := diff_le a b k; unfold diffTo; split <;> omega
theorem diff_none (a b : List UInt8) : ∀ k, diffTo a b k = 0 ↔ ∀ i, i < k → a.getD i 0 = b.getD i 0
  | 0 => by simp [diffTo]
  | k + 1 => by
    unfold diffTo
    have ih := diff_none a b k
    refine ⟨fun h i hi => ?_, fun h => ?_⟩
    · rcases Nat.lt_succ_iff_lt_or_eq.1 hi with h1 | rfl
      · exact ih.1 (by omega) i h1
      · split at h
        · assumption
        · omega
    · rw [if_pos (h k (by omega)), ih.2 (fun i hi => h i (by omega))]
theorem diff_one (a b : List UInt8) : ∀ k, diffTo a b k = 1 ↔ ∃ i, i < k ∧ a.getD i 0 ≠ b.getD i 0 ∧ ∀ j, j < k → j ≠ i → a.getD j 0 = b.getD j 0
  | 0 => by simp [diffTo]
  | k + 1 => by
    unfold diffTo
    have ih := diff_one a b k
    have i0 := diff_none a b k
    refine ⟨fun h => ?_, fun ⟨i, h1, h2, h3⟩ => ?_⟩
    · split at h
      · rename_i he
        obtain ⟨i, h1, h2, h3⟩ := ih.1 (by omega)
        refine ⟨i, by omega, h2, fun j hj hji => ?_⟩
        rcases Nat.lt_succ_iff_lt_or_eq.1 hj with h4 | rfl
        · exact h3 j h4 hji
        · exact he
      · rename_i he
        have h0 := i0.1 (by omega)
        exact ⟨k, by omega, he, fun j hj hjk => h0 j (by omega)⟩
    · by_cases hik : i = k
      · subst hik
        rw [if_neg h2, i0.2 (fun j hj => h3 j (by omega) (by omega))]
      · rw [if_pos (h3 k (by omega) (fun e => hik e.symm)), ih.2 ⟨i, by omega, h2, fun j hj hji => h3 j (by omega) hji⟩]
theorem getD_other (a : List UInt8) (i : Nat) (d : UInt8) (hi : i < a.length) (j : Nat) : (otherAt a i d).getD j 0 = if j = i then d else a.getD j 0 := by
  unfold otherAt
  simp only [List.getD_eq_getElem?_getD]
  rcases Nat.lt_trichotomy j i with h | rfl | h
  · rw [List.getElem?_append_left (by rw [List.length_take]; omega), List.getElem?_take_of_lt h, if_neg (by omega)]
  · rw [List.getElem?_append_right (by rw [List.length_take]; omega), List.length_take, Nat.min_eq_left (by omega)]
    simp
  · rw [List.getElem?_append_right (by rw [List.length_take]; omega), List.length_take, Nat.min_eq_left (by omega), if_neg (by omega), show j - i = (j - i - 1) + 1 by omega, List.getElem?_cons_succ, List.getElem?_drop]
    congr 2
    omega
theorem len_other (a : List UInt8) (i : Nat) (d : UInt8) (hi : i < a.length) : (otherAt a i d).length = a.length := by
  unfold otherAt
  rw [List.length_append, List.length_take, List.length_cons, List.length_drop]; omega
theorem len_lost (a : List UInt8) (i : Nat) (hi : i < a.length) : (lostAt a i).length + 1 = a.length := by
  unfold lostAt
  rw [List.length_append, List.length_take, List.length_drop]; omega
theorem len_more (a : List UInt8) (i : Nat) (d : UInt8) (hi : i ≤ a.length) : (moreAt a i d).length = a.length + 1 := by
  unfold moreAt
  rw [List.length_append, List.length_take, List.length_cons, List.length_drop]; omega
theorem len_turn (a : List UInt8) (i : Nat) (hi : i + 1 < a.length) : (turnAt a i).length = a.length := by
  unfold turnAt
  rw [List.length_append, List.length_take, List.length_cons, List.length_cons, List.length_drop]; omega
theorem getD_ext {a b : List UInt8} (hl : a.length = b.length) (h : ∀ j, j < a.length → a.getD j 0 = b.getD j 0) : a = b := by
  apply List.ext_getElem hl
  intro j h1 h2
  have := h j h1
  simpa [h1, h2] using this
theorem other_iff {a b : List UInt8} (hne : a ≠ b) (hb : ∀ x ∈ b, x ∈ tenD) : b ∈ slipsL a 2 ↔ a.length = b.length ∧ diffTo a b a.length = 1 := by
  rw [mem_other]
  refine ⟨fun ⟨i, d, h1, h2, h3⟩ => ⟨by rw [h3, len_other a i d h1], ?_⟩, fun ⟨hl, hd⟩ => ?_⟩
  · rw [diff_one]
    have hdif : a.getD i 0 ≠ b.getD i 0 := fun e => hne (by
      refine getD_ext (by rw [h3, len_other a i d h1]) fun j hj => ?_
      by_cases hji : j = i
      · rw [hji]; exact e
      · rw [h3, getD_other a i d h1, if_neg hji])
    refine ⟨i, h1, hdif, fun j hj hji => ?_⟩
    rw [h3, getD_other a i d h1, if_neg hji]
  · obtain ⟨i, h1, h2, h3⟩ := (diff_one a b a.length).1 hd
    have hib : i < b.length := by omega
    refine ⟨i, b.getD i 0, h1, hb _ (by rw [show b.getD i 0 = b[i] by simp [hib]]; exact List.getElem_mem hib), ?_⟩
    refine getD_ext (by rw [len_other a i _ h1]; exact hl.symm) fun j hj => ?_
    rw [getD_other a i _ h1]
    by_cases hji : j = i
    · rw [if_pos hji, hji]
    · rw [if_neg hji, h3 j (by omega) hji]
theorem more_iff {a b : List UInt8} (hb : ∀ x ∈ b, x ∈ tenD) : b ∈ slipsL a 5 ↔ b.length = a.length + 1 ∧ ∃ i, i < b.length ∧ lostAt b i = a := by
  rw [mem_more]
  refine ⟨fun ⟨i, d, h1, h2, h3⟩ => ?_, fun ⟨hl, i, h1, h2⟩ => ?_⟩
  · have hl := len_more a i d h1
    subst h3
    refine ⟨hl, i, by omega, ?_⟩
    unfold lostAt moreAt
    have ht : (a.take i).length = i := by rw [List.length_take]; omega
    rw [List.take_append_of_le_length (by omega), List.take_take, Nat.min_self, show i + 1 = (a.take i).length + 1 by omega, List.drop_length_add_append, List.drop_succ_cons, List.drop_zero, List.take_append_drop]
  · refine ⟨i, b.getD i 0, by omega, hb _ (by rw [show b.getD i 0 = b[i] by simp [h1]]; exact List.getElem_mem h1), ?_⟩
    subst h2
    unfold moreAt lostAt
    have ht : (b.take i).length = i := by rw [List.length_take]; omega
    rw [List.take_append_of_le_length (by omega), List.take_take, Nat.min_self]
    have hd : List.drop i (b.take i ++ b.drop (i + 1)) = b.drop (i + 1) := by
      conv => lhs; arg 1; rw [← ht]
      exact List.drop_left
    rw [hd]
    conv => lhs; rw [← List.take_append_drop i b, List.drop_eq_getElem_cons h1]
    simp [h1]
def turnsB (a b : List UInt8) : Bool := (List.range (a.length - 1)).any fun i => turnAt a i == b
def shortB (a b : List UInt8) : Bool := (List.range a.length).any fun i => lostAt a i == b
theorem turns_iff (a b : List UInt8) : turnsB a b = true ↔ b ∈ slipsL a 3 := by
  rw [mem_turn]
  unfold turnsB
  rw [List.any_eq_true]
  refine ⟨fun ⟨i, h1, h2⟩ => ⟨i, by have := List.mem_range.1 h1; omega, (beq_iff_eq.1 h2).symm⟩, fun ⟨i, h1, h2⟩ => ⟨i, List.mem_range.2 (by omega), beq_iff_eq.2 h2.symm⟩⟩
theorem short_iff (a b : List UInt8) : shortB a b = true ↔ ∃ i, i < a.length ∧ lostAt a i = b := by
  unfold shortB
  rw [List.any_eq_true]
  refine ⟨fun ⟨i, h1, h2⟩ => ⟨i, List.mem_range.1 h1, beq_iff_eq.1 h2⟩, fun ⟨i, h1, h2⟩ => ⟨i, List.mem_range.2 h1, beq_iff_eq.2 h2⟩⟩
theorem lost_iff (a b : List UInt8) : b ∈ slipsL a 4 ↔ a.length = b.length + 1 ∧ shortB a b = true := by
  rw [mem_lost, short_iff]
  refine ⟨fun ⟨i, h1, h2⟩ => ⟨by rw [h2]; exact (len_lost a i h1).symm, i, h1, h2.symm⟩, fun ⟨_, i, h1, h2⟩ => ⟨i, h1, h2.symm⟩⟩
theorem more_iff2 {a b : List UInt8} (hb : ∀ x ∈ b, x ∈ tenD) : b ∈ slipsL a 5 ↔ b.length = a.length + 1 ∧ shortB b a = true := by
  rw [more_iff hb, short_iff]
/-- What the program looks at. -/
def slipP (a b : List UInt8) : Nat :=
  if a = b then 1 else if a.length = b.length ∧ diffTo a b a.length = 1 then 2 else if a.length = b.length ∧ turnsB a b = true then 3
  else if a.length = b.length + 1 ∧ shortB a b = true then 4 else if b.length = a.length + 1 ∧ shortB b a = true then 5 else 0
theorem slip_same {a b : List UInt8} (hb : ∀ x ∈ b, x ∈ tenD) : slipR a b = slipP a b := by
  unfold slipR slipP
  by_cases h1 : a = b
  · rw [if_pos h1, if_pos h1]
  · rw [if_neg h1, if_neg h1]
    have e2 := other_iff h1 hb
    have e3 : b ∈ slipsL a 3 ↔ a.length = b.length ∧ turnsB a b = true := by
      rw [← turns_iff]
      refine ⟨fun h => ⟨?_, h⟩, fun h => h.2⟩
      obtain ⟨i, h1, h2⟩ := (mem_turn a b).1 ((turns_iff a b).1 h)
      rw [h2]; exact (len_turn a i h1).symm
    simp only [e2, e3, lost_iff a b, more_iff2 hb]
/-- What the program tries for one place and one digit, for one place, for so many places. -/
def tryC (s : List UInt8) (i : Nat) (c : UInt8) : List (List UInt8) := moreAt s i c :: (if i < s.length then [otherAt s i c] else [])
def tryCs (s : List UInt8) (i : Nat) (k : Nat) : List (List UInt8) := (tenD.take k).flatMap (tryC s i)
def tryL (s : List UInt8) (i : Nat) : List (List UInt8) := tryCs s i 10 ++ (if i < s.length then [lostAt s i] else [])
def tryRow (s : List UInt8) (i : Nat) : List (List UInt8) := tryL s i ++ (if i + 1 < s.length then [turnAt s i] else [])
def tryTo (s : List UInt8) (k : Nat) : List (List UInt8) := (List.range k).flatMap (tryRow s)
theorem tryTo_succ (s : List UInt8) (k : Nat) : tryTo s (k + 1) = tryTo s k ++ tryRow s k := by
  unfold tryTo
  rw [List.range_succ, List.flatMap_append]
  simp
theorem tryCs_succ (s : List UInt8) (i k : Nat) (hk : k < 10) : tryCs s i (k + 1) = tryCs s i k ++ tryC s i (tenD.getD k 0) := by
  unfold tryCs
  rw [List.take_add_one, List.flatMap_append]
  congr 1
  have : k < tenD.length := hk
  simp [this]
theorem ten_at : ∀ k, k < 10 → tenD.getD k 0 = UInt8.ofNat (48 + k) := by decide
theorem mem_try (s z : List UInt8) : z ∈ tryTo s (s.length + 1) ↔ z ∈ slipsL s 2 ∨ z ∈ slipsL s 3 ∨ z ∈ slipsL s 4 ∨ z ∈ slipsL s 5 := by
  rw [mem_other, mem_turn, mem_lost, mem_more]
  unfold tryTo
  rw [List.mem_flatMap]
  simp only [List.mem_range, tryRow, tryL, tryCs, List.mem_append, List.mem_flatMap, tryC, List.mem_cons, show tenD.take 10 = tenD from rfl]
  refine ⟨fun ⟨i, h1, h⟩ => ?_, fun h => ?_⟩
  · rcases h with (⟨c, hc, h | h⟩ | h) | h
    · exact Or.inr (Or.inr (Or.inr ⟨i, c, by omega, hc, h⟩))
    · split at h
      · rename_i hi
        exact Or.inl ⟨i, c, hi, hc, List.mem_singleton.1 h⟩
      · cases h
    · split at h
      · rename_i hi
        exact Or.inr (Or.inr (Or.inl ⟨i, hi, List.mem_singleton.1 h⟩))
      · cases h
    · split at h
      · rename_i hi
        exact Or.inr (Or.inl ⟨i, hi, List.mem_singleton.1 h⟩)
      · cases h
  · rcases h with ⟨i, d, h1, h2, h3⟩ | ⟨i, h1, h3⟩ | ⟨i, h1, h3⟩ | ⟨i, d, h1, h2, h3⟩
    · exact ⟨i, by omega, Or.inl (Or.inl ⟨d, h2, Or.inr (by rw [if_pos h1]; exact List.mem_singleton.2 h3)⟩)⟩
    · exact ⟨i, by omega, Or.inr (by rw [if_pos h1]; exact List.mem_singleton.2 h3)⟩
    · exact ⟨i, by omega, Or.inl (Or.inr (by rw [if_pos h1]; exact List.mem_singleton.2 h3))⟩
    · exact ⟨i, by omega, Or.inl (Or.inl ⟨d, h2, Or.inl h3⟩)⟩
theorem tryC_len (s : List UInt8) (i : Nat) (c : UInt8) : (tryC s i c).length ≤ 2 := by unfold tryC; split <;> simp
theorem flat_len {α : Type} (f : α → List (List UInt8)) (m : Nat) (hf : ∀ x, (f x).length ≤ m) : ∀ l : List α, (l.flatMap f).length ≤ m * l.length
  | [] => by simp
  | x :: l => by
    have := flat_len f m hf l
    have := hf x
    rw [List.flatMap_cons, List.length_append, List.length_cons, Nat.mul_add]; omega
theorem tryCs_len (s : List UInt8) (i k : Nat) : (tryCs s i k).length ≤ 20 := by
  have h := flat_len (tryC s i) 2 (tryC_len s i) (tenD.take k)
  have h2 : (tenD.take k).length ≤ 10 := by rw [List.length_take]; exact Nat.min_le_right _ _
  unfold tryCs
  omega
theorem tryRow_len (s : List UInt8) (i : Nat) : (tryRow s i).length ≤ 22 := by
  have h := tryCs_len s i 10
  unfold tryRow tryL
  rw [List.length_append, List.length_append]
  have h1 : (if i < s.length then [lostAt s i] else []).length ≤ 1 := by split <;> simp
  have h2 : (if i + 1 < s.length then [turnAt s i] else []).length ≤ 1 := by split <;> simp
  omega
theorem tryTo_len (s : List UInt8) (k : Nat) : (tryTo s k).length ≤ 22 * k := by
  have h := flat_len (tryRow s) 22 (tryRow_len s) (List.range k)
  rw [List.length_range] at h
  exact h
/-- Those that are taken, as numbers. -/
def takeN (f : List UInt8 → Bool) (s : List UInt8) (l : List (List UInt8)) : List (List UInt8) := (l.filter fun d => f d && !(d == s)).map (43 :: ·)
theorem takeN_app (f : List UInt8 → Bool) (s : List UInt8) (x y : List (List UInt8)) : takeN f s (x ++ y) = takeN f s x ++ takeN f s y := by unfold takeN; simp
theorem takeN_one (f : List UInt8 → Bool) (s d : List UInt8) : takeN f s [d] = if (f d && !(d == s)) = true then [43 :: d] else [] := by
  unfold takeN
  rw [List.filter_cons]
  split <;> rfl
theorem takeN_len (f : List UInt8 → Bool) (s : List UInt8) (x : List (List UInt8)) : (takeN f s x).length ≤ x.length := by
  unfold takeN
  rw [List.length_map]
  exact List.length_filter_le _ _
def allKinds (s : List UInt8) : List (List UInt8) := slipsL s 2 ++ slipsL s 3 ++ slipsL s 4 ++ slipsL s 5
theorem take_once (f : List UInt8 → Bool) (s : List UInt8) : onceL (takeN f s (tryTo s (s.length + 1))) = onceL (takeN f s (allKinds s)) := by
  refine once_same fun z => ?_
  have hm : ∀ d, d ∈ tryTo s (s.length + 1) ↔ d ∈ allKinds s := fun d => by
    rw [mem_try]
    unfold allKinds
    simp only [List.mem_append, or_assoc]
  unfold takeN
  simp only [List.mem_map, List.mem_filter, hm]
end Go.Proofs.YtleagenhnchjdaaGreatDoor
