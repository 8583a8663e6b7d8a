/- What is proved here: small facts on worlds that the walks of this seat share (blocks that stay, a stream of numbers). No condition. -/
import Derived.Test.YtbimecknmojnoaaGreatDoorProg
import Derived.WalkKit
import Derived.WalkLawsBesides
import Derived.WalkSpells
import Derived.Deep.QuietTactic
import Derived.BigQuiet
import Derived.RegionTactic
import Derived.Lib.Hide
namespace Go.Proofs.YtbimecknmojnoaaGreatDoor
open Go.RowKit

/-- The blocks of w stay, but for block S; nothing outside has turned. -/
structure Keeps (S : Nat) (w w' : World) : Prop where
  os : w'.os = w.os
  tape : w'.tape = w.tape
  output : w'.output = w.output
  size : w.heap.size ≤ w'.heap.size
  block : ∀ k, k < w.heap.size → k ≠ S → w'.heap[k]? = w.heap[k]?

theorem Keeps.ext {S : Nat} {a w w' : World} (h : Keeps S a w) (b : Below w.heap.size w w') : Keeps S a w' :=
  ⟨b.os.trans h.os, b.tape.trans h.tape, b.output.trans h.output, Nat.le_trans h.size b.size, fun k hk hn => (b.block k (Nat.lt_of_lt_of_le hk h.size)).trans (h.block k hk hn)⟩
theorem Keeps.refl (S : Nat) (w : World) : Keeps S w w := ⟨rfl, rfl, rfl, Nat.le_refl _, fun _ _ _ => rfl⟩
theorem Keeps.trans {S : Nat} {a b c : World} (h : Keeps S a b) (k : Keeps S b c) : Keeps S a c :=
  ⟨k.os.trans h.os, k.tape.trans h.tape, k.output.trans h.output, Nat.le_trans h.size k.size, fun i hi hn => (k.block i (Nat.lt_of_lt_of_le hi h.size) hn).trans (h.block i hi hn)⟩
theorem Keeps.of_below {S : Nat} {w w' : World} (h : Below w.heap.size w w') : Keeps S w w' := ⟨h.os, h.tape, h.output, h.size, fun k hk _ => h.block k hk⟩
theorem Keeps.below {S B : Nat} {w w' : World} (h : Keeps S w w') (hB : B ≤ w.heap.size) (hS : B ≤ S) : Below B w w' :=
  ⟨h.os, h.tape, h.output, h.size, fun k hk => h.block k (by omega) (by omega)⟩
theorem Keeps.cell {S : Nat} {w w' : World} (h : Keeps S w w') {p : Addr} (hp : p.block < w.heap.size) (hn : p.block ≠ S) : w'.cell? p = w.cell? p := World.cell?_of_block (w := w) (h.block p.block hp hn)
theorem Keeps.frozen {S : Nat} {w w' : World} (h : Keeps S w w') {p : Addr} (hp : p.block < w.heap.size) (hn : p.block ≠ S) : w'.frozen? p = w.frozen? p := World.frozen?_of_block (w := w) (h.block p.block hp hn)
theorem Keeps.drew {S : Nat} {a w : World} (h : Keeps S a w) : Keeps S a w.drew := ⟨h.os, h.tape, h.output, h.size, h.block⟩
theorem Keeps.drewN {S : Nat} {a w : World} (h : Keeps S a w) (n : Nat) : Keeps S a (w.drewN n) := ⟨h.os, h.tape, h.output, h.size, h.block⟩
theorem Keeps.alloc {S : Nat} {a w : World} (h : Keeps S a w) (o : Obj) : Keeps S a (w.alloc o) :=
  h.trans ⟨rfl, rfl, rfl, by simp, fun k hk _ => Below.heap_alloc _ _ _ hk⟩
theorem Keeps.setCell {S : Nat} {a w : World} (h : Keeps S a w) {p : Addr} (hp : p.block = S) (u : Value) : Keeps S a (w.setCell p u) :=
  h.trans ⟨rfl, rfl, rfl, by simp, fun k hk hn => Below.heap_setCell _ _ _ _ (by omega)⟩
theorem Keeps.setCell_new {S : Nat} {a w : World} (h : Keeps S a w) {p : Addr} (hp : a.heap.size ≤ p.block) (u : Value) : Keeps S a (w.setCell p u) :=
  ⟨h.os, h.tape, h.output, by simpa using h.size, fun k hk hn => (Below.heap_setCell _ _ _ _ (by omega)).trans (h.block k hk hn)⟩

/-- A slice of integers: empty, or a row of cells in a block below S. -/
def IntRow (w : World) (S : Nat) (a : Option Addr) (len cap : Nat) (zs : List Int) : Prop :=
  len = 0 ∨
  ∃ b off, a = some ⟨b, off, none⟩ ∧ b < S ∧ len ≤ cap ∧ cap ≤ maxLen ∧ len ≤ zs.length ∧ (∀ i, i < len → w.cell? ⟨b, off + i, none⟩ = some (.int .i64 (zs.getD i 0)))

theorem IntRow.kept {w w' : World} {S : Nat} {a : Option Addr} {len cap : Nat} {zs : List Int} (h : IntRow w S a len cap zs) (k : Below S w w') : IntRow w' S a len cap zs := by
  rcases h with h | ⟨b, off, ha, hb, h1, h2, h3, hc⟩
  · exact Or.inl h
  · exact Or.inr ⟨b, off, ha, hb, h1, h2, h3, fun i hi => (k.cell (p := ⟨b, off + i, none⟩) hb).trans (hc i hi)⟩

/-- Block S is a stream that has handed out at most k numbers. -/
def StreamOk (w : World) (S k : Nat) : Prop :=
  ∃ (a : Option Addr) (len cap : Nat) (zs : List Int) (n : Nat), n ≤ k ∧ S < w.heap.size ∧ w.cell? ⟨S, 0, none⟩ = some (.slice a len cap) ∧ w.cell? ⟨S, 1, none⟩ = some (.int .i64 n) ∧ w.frozen? ⟨S, 1, none⟩ = false ∧ IntRow w S a len cap zs

theorem StreamOk.mono {w : World} {S k k' : Nat} (h : StreamOk w S k) (hk : k ≤ k') : StreamOk w S k' := by
  obtain ⟨a, len, cap, zs, n, hn, r⟩ := h
  exact ⟨a, len, cap, zs, n, by omega, r⟩
theorem StreamOk.lt {w : World} {S k : Nat} (h : StreamOk w S k) : S < w.heap.size := by
  obtain ⟨a, len, cap, zs, n, hn, r, _⟩ := h
  exact r
theorem StreamOk.upto {w w' : World} {S k : Nat} (h : StreamOk w S k) (b : Below (S + 1) w w') : StreamOk w' S k := by
  obtain ⟨a, len, cap, zs, n, hn, hs, h0, h1, hf, hr⟩ := h
  exact ⟨a, len, cap, zs, n, hn, Nat.lt_of_lt_of_le hs b.size, (b.cell (p := ⟨S, 0, none⟩) (Nat.lt_succ_self _)).trans h0, (b.cell (p := ⟨S, 1, none⟩) (Nat.lt_succ_self _)).trans h1, (b.frozen (p := ⟨S, 1, none⟩) (Nat.lt_succ_self _)).trans hf, hr.kept (b.mono (Nat.le_succ _))⟩
theorem StreamOk.below {w w' : World} {S k : Nat} (h : StreamOk w S k) (b : Below w.heap.size w w') : StreamOk w' S k := h.upto (b.mono h.lt)

/-- Below S, and S itself, through an append to a row of the call's own. -/
theorem upto_grown {S : Nat} {w w' : World} {o : Obj} {row : Option Nat} (hg : (w.alloc o).grownBy w' row) (hS : S ≤ w.heap.size) (hr : ∀ b, row = some b → S ≤ b) : Below S w w' :=
  ((Below.refl S w).alloc hS o).grown hg (by simp; omega) hr
theorem Keeps.grown {S : Nat} {a w w' : World} {o : Obj} {row : Option Nat} (h : Keeps S a w) (hg : (w.alloc o).grownBy w' row) (hr : ∀ b, row = some b → a.heap.size ≤ b) : Keeps S a w' :=
  ⟨hg.os.trans h.os, hg.tape.trans h.tape, hg.output.trans h.output, Nat.le_trans h.size (by have := hg.size; simp at this; omega), fun k hk hn => ((hg.block k (by simp; have := h.size; omega) (fun e => by have := hr k e.symm; omega)).trans (Below.heap_alloc _ _ _ (Nat.lt_of_lt_of_le hk h.size))).trans (h.block k hk hn)⟩

/-- What a call of the stream's comes to: a number from 0 to n - 1. -/
def NextPost (S k : Nat) (lo hi : Int) (w : World) (e : Ending) (w' : World) : Prop :=
  ∃ r : Int, e = .returned (.int .i64 r) ∧ lo ≤ r ∧ r ≤ hi ∧ StreamOk w' S k ∧ Keeps S w w'

theorem ext_trans {a b c : World} (h : Below a.heap.size a b) (k : Below b.heap.size b c) : Below a.heap.size a c := h.trans (k.mono h.size)
theorem ext_alloc {a w : World} {o : Obj} (h : Below a.heap.size a w) : Below a.heap.size a (w.alloc o) := h.alloc h.size o
theorem ext_drew {a w : World} (h : Below a.heap.size a w) : Below a.heap.size a w.drew := h.drew
theorem ext_drewN {a w : World} {n : Nat} (h : Below a.heap.size a w) : Below a.heap.size a (w.drewN n) := ⟨h.os, h.tape, h.output, h.size, h.block⟩
theorem ext_setCell {a w : World} {p : Addr} {u : Value} (h : Below a.heap.size a w) (hp : a.heap.size ≤ p.block) : Below a.heap.size a (w.setCell p u) := h.setCell hp u

theorem bcell {W w1 : World} (hb : Below W.heap.size W w1) : (∀ b o, b < W.heap.size → w1.cell? ⟨b, o, none⟩ = W.cell? ⟨b, o, none⟩) ∧ (∀ b o, b < W.heap.size → w1.frozen? ⟨b, o, none⟩ = W.frozen? ⟨b, o, none⟩) :=
  ⟨fun b o h => hb.cell (p := ⟨b, o, none⟩) h, fun b o h => hb.frozen (p := ⟨b, o, none⟩) h⟩

theorem below_of_grown_none {X w1 : World} (h : X.grownBy w1 none) : Below X.heap.size X w1 := (Below.refl _ X).grown h (Nat.le_refl _) (by intro k hk; cases hk)
theorem kept_of_grown {X w1 : World} {g : Nat} (h : X.grownBy w1 (some g)) : (∀ b o, b < X.heap.size → b ≠ g → w1.cell? ⟨b, o, none⟩ = X.cell? ⟨b, o, none⟩) ∧ (∀ b o, b < X.heap.size → b ≠ g → w1.frozen? ⟨b, o, none⟩ = X.frozen? ⟨b, o, none⟩) :=
  ⟨fun b o hb hn => World.cell?_of_block (w := X) (a := ⟨b, o, none⟩) (h.block b hb (by intro e; cases e; exact hn rfl)), fun b o hb hn => World.frozen?_of_block (w := X) (a := ⟨b, o, none⟩) (h.block b hb (by intro e; cases e; exact hn rfl))⟩

theorem _root_.Go.World.ownsRow.kept_below {w w' : World} {base : Nat} {e : TypeId} {size : Nat} {v : Value} {n : Nat} {xs : List Value} (h : w.ownsRow base e size v n xs) (hb : Below w.heap.size w w') : w'.ownsRow base e size v n xs :=
  h.kept (row := none) ⟨hb.os, hb.tape, hb.output, hb.size, fun k hk _ => hb.block k hk⟩ (by cases v.ownBlock <;> simp)

/-- A row of the call's own, from a block behind S on, stays where only S is written. -/
theorem own_keeps {S : Nat} {w w' : World} {base : Nat} {e : TypeId} {size : Nat} {v : Value} {n : Nat} {xs : List Value} (h : w.ownsRow base e size v n xs) (k : Keeps S w w') (hS : S < base) : w'.ownsRow base e size v n xs :=
  h.kept (row := some S) ⟨k.os, k.tape, k.output, k.size, fun b hb hn => k.block b hb (fun e => hn (by rw [e]))⟩ (by
    cases hv : v.ownBlock with
    | none => exact Or.inl rfl
    | some g => exact Or.inr (by have := (h.lt g hv).1; simp; omega))

theorem news_one {w : World} {ad : Addr} {x : Value} (h : w.cell? ad = some x) : ∀ (j : Nat) u, ([x] : List Value)[j]? = some u → w.cell? (ad.add j) = some u := by
  intro j u hj
  cases j with
  | zero => simp at hj; subst hj; simpa [Addr.add] using h
  | succ j => simp at hj

theorem ret_int {k : IntKind} {a b : Int} (h : a = b) : Ending.returned (.int k a) = .returned (.int k b) := by rw [h]

end Go.Proofs.YtbimecknmojnoaaGreatDoor
