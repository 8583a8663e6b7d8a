/- What is proved here: lemmas and contracts for the statement, put together out of smaller texts (Base, PatMath, PatOrder, TurnMath, HourMath, Number, ReadyD, ReadyE, PatSet, DplMath, Strs, PlanMath). No condition beyond those stated. -/
import Derived.Test.YtkdadbpajhdelaaGreatDoorProg
import Derived.WalkKit
import Derived.WalkLawsBesides
import Derived.WalkSpells
import Derived.Deep.QuietTactic
import Derived.BigQuiet
import Derived.RegionTactic
import Derived.Lib.Hide
import Derived.Test.YtkdadbpajhdelaaGreatDoorShelf
import Derived.LoopN
import Derived.Deep.AppendLies
import Derived.Deep.RegionLaw
import Derived.Outline
import Derived.Lib.Bytealg
import GoSem.Op.String
namespace Go.Proofs.YtkdadbpajhdelaaGreatDoor
open Go.RowKit

/-- The blocks of w stay, but for block S; nothing outside has turned. -/
structure Keeps (S : Nat) (w w' : World) : Prop where
  os : w'.os = w.os
  tape : w'.tape = w.tape
  output : w'.output = w.output
  size : w.heap.size ≤ w'.heap.size
  block : ∀ k, k < w.heap.size → k ≠ S → w'.heap[k]? = w.heap[k]?

theorem Keeps.ext {S : Nat} {a w w' : World} (h : Keeps S a w) (b : Below w.heap.size w w') : Keeps S a w' :=
  ⟨b.os.trans h.os, b.tape.trans h.tape, b.output.trans h.output, Nat.le_trans h.size b.size, fun k hk hn => (b.block k (Nat.lt_of_lt_of_le hk h.size)).trans (h.block k hk hn)⟩
theorem Keeps.refl (S : Nat) (w : World) : Keeps S w w := ⟨rfl, rfl, rfl, Nat.le_refl _, fun _ _ _ => rfl⟩
theorem Keeps.trans {S : Nat} {a b c : World} (h : Keeps S a b) (k : Keeps S b c) : Keeps S a c :=
  ⟨k.os.trans h.os, k.tape.trans h.tape, k.output.trans h.output, Nat.le_trans h.size k.size, fun i hi hn => (k.block i (Nat.lt_of_lt_of_le hi h.size) hn).trans (h.block i hi hn)⟩
theorem Keeps.of_below {S : Nat} {w w' : World} (h : Below w.heap.size w w') : Keeps S w w' := ⟨h.os, h.tape, h.output, h.size, fun k hk _ => h.block k hk⟩
theorem Keeps.below {S B : Nat} {w w' : World} (h : Keeps S w w') (hB : B ≤ w.heap.size) (hS : B ≤ S) : Below B w w' :=
  ⟨h.os, h.tape, h.output, h.size, fun k hk => h.block k (by omega) (by omega)⟩
theorem Keeps.cell {S : Nat} {w w' : World} (h : Keeps S w w') {p : Addr} (hp : p.block < w.heap.size) (hn : p.block ≠ S) : w'.cell? p = w.cell? p := World.cell?_of_block (w := w) (h.block p.block hp hn)
theorem Keeps.frozen {S : Nat} {w w' : World} (h : Keeps S w w') {p : Addr} (hp : p.block < w.heap.size) (hn : p.block ≠ S) : w'.frozen? p = w.frozen? p := World.frozen?_of_block (w := w) (h.block p.block hp hn)
theorem Keeps.drew {S : Nat} {a w : World} (h : Keeps S a w) : Keeps S a w.drew := ⟨h.os, h.tape, h.output, h.size, h.block⟩
theorem Keeps.drewN {S : Nat} {a w : World} (h : Keeps S a w) (n : Nat) : Keeps S a (w.drewN n) := ⟨h.os, h.tape, h.output, h.size, h.block⟩
theorem Keeps.alloc {S : Nat} {a w : World} (h : Keeps S a w) (o : Obj) : Keeps S a (w.alloc o) :=
  h.trans ⟨rfl, rfl, rfl, by simp, fun k hk _ => Below.heap_alloc _ _ _ hk⟩
theorem Keeps.setCell {S : Nat} {a w : World} (h : Keeps S a w) {p : Addr} (hp : p.block = S) (u : Value) : Keeps S a (w.setCell p u) :=
  h.trans ⟨rfl, rfl, rfl, by simp, fun k hk hn => Below.heap_setCell _ _ _ _ (by omega)⟩
theorem Keeps.setCell_new {S : Nat} {a w : World} (h : Keeps S a w) {p : Addr} (hp : a.heap.size ≤ p.block) (u : Value) : Keeps S a (w.setCell p u) :=
  ⟨h.os, h.tape, h.output, by simpa using h.size, fun k hk hn => (Below.heap_setCell _ _ _ _ (by omega)).trans (h.block k hk hn)⟩

/-- A slice of integers: empty, or a row of cells in a block below S. -/
def IntRow (w : World) (S : Nat) (a : Option Addr) (len cap : Nat) (zs : List Int) : Prop :=
  len = 0 ∨
  ∃ b off, a = some ⟨b, off, none⟩ ∧ b < S ∧ len ≤ cap ∧ cap ≤ maxLen ∧ len ≤ zs.length ∧ (∀ i, i < len → w.cell? ⟨b, off + i, none⟩ = some (.int .i64 (zs.getD i 0)))

theorem IntRow.kept {w w' : World} {S : Nat} {a : Option Addr} {len cap : Nat} {zs : List Int} (h : IntRow w S a len cap zs) (k : Below S w w') : IntRow w' S a len cap zs := by
  rcases h with h | ⟨b, off, ha, hb, h1, h2, h3, hc⟩
  · exact Or.inl h
  · exact Or.inr ⟨b, off, ha, hb, h1, h2, h3, fun i hi => (k.cell (p := ⟨b, off + i, none⟩) hb).trans (hc i hi)⟩

/-- Block S is a stream that has handed out at most k numbers. -/
def StreamOk (w : World) (S k : Nat) : Prop :=
  ∃ (a : Option Addr) (len cap : Nat) (zs : List Int) (n : Nat), n ≤ k ∧ S < w.heap.size ∧ w.cell? ⟨S, 0, none⟩ = some (.slice a len cap) ∧ w.cell? ⟨S, 1, none⟩ = some (.int .i64 n) ∧ w.frozen? ⟨S, 1, none⟩ = false ∧ IntRow w S a len cap zs

theorem StreamOk.mono {w : World} {S k k' : Nat} (h : StreamOk w S k) (hk : k ≤ k') : StreamOk w S k' := by
  obtain ⟨a, len, cap, zs, n, hn, r⟩ := h
  exact ⟨a, len, cap, zs, n, by omega, r⟩
theorem StreamOk.lt {w : World} {S k : Nat} (h : StreamOk w S k) : S < w.heap.size := by
  obtain ⟨a, len, cap, zs, n, hn, r, _⟩ := h
  exact r
theorem StreamOk.upto {w w' : World} {S k : Nat} (h : StreamOk w S k) (b : Below (S + 1) w w') : StreamOk w' S k := by
  obtain ⟨a, len, cap, zs, n, hn, hs, h0, h1, hf, hr⟩ := h
  exact ⟨a, len, cap, zs, n, hn, Nat.lt_of_lt_of_le hs b.size, (b.cell (p := ⟨S, 0, none⟩) (Nat.lt_succ_self _)).trans h0, (b.cell (p := ⟨S, 1, none⟩) (Nat.lt_succ_self _)).trans h1, (b.frozen (p := ⟨S, 1, none⟩) (Nat.lt_succ_self _)).trans hf, hr.kept (b.mono (Nat.le_succ _))⟩
theorem StreamOk.below {w w' : World} {S k : Nat} (h : StreamOk w S k) (b : Below w.heap.size w w') : StreamOk w' S k := h.upto (b.mono h.lt)

/-- Below S, and S itself, through an append to a row of the call's own. -/
theorem upto_grown {S : Nat} {w w' : World} {o : Obj} {row : Option Nat} (hg : (w.alloc o).grownBy w' row) (hS : S ≤ w.heap.size) (hr : ∀ b, row = some b → S ≤ b) : Below S w w' :=
  ((Below.refl S w).alloc hS o).grown hg (by simp; omega) hr
theorem Keeps.grown {S : Nat} {a w w' : World} {o : Obj} {row : Option Nat} (h : Keeps S a w) (hg : (w.alloc o).grownBy w' row) (hr : ∀ b, row = some b → a.heap.size ≤ b) : Keeps S a w' :=
  ⟨hg.os.trans h.os, hg.tape.trans h.tape, hg.output.trans h.output, Nat.le_trans h.size (by have := hg.size; simp at this; omega), fun k hk hn => ((hg.block k (by simp; have := h.size; omega) (fun e => by have := hr k e.symm; omega)).trans (Below.heap_alloc _ _ _ (Nat.lt_of_lt_of_le hk h.size))).trans (h.block k hk hn)⟩

/-- What a call of the stream's comes to: a number from 0 to n - 1. -/
def NextPost (S k : Nat) (lo hi : Int) (w : World) (e : Ending) (w' : World) : Prop :=
  ∃ r : Int, e = .returned (.int .i64 r) ∧ lo ≤ r ∧ r ≤ hi ∧ StreamOk w' S k ∧ Keeps S w w'

theorem ext_trans {a b c : World} (h : Below a.heap.size a b) (k : Below b.heap.size b c) : Below a.heap.size a c := h.trans (k.mono h.size)
theorem ext_alloc {a w : World} {o : Obj} (h : Below a.heap.size a w) : Below a.heap.size a (w.alloc o) := h.alloc h.size o
theorem ext_drew {a w : World} (h : Below a.heap.size a w) : Below a.heap.size a w.drew := h.drew
theorem ext_drewN {a w : World} {n : Nat} (h : Below a.heap.size a w) : Below a.heap.size a (w.drewN n) := ⟨h.os, h.tape, h.output, h.size, h.block⟩
theorem ext_setCell {a w : World} {p : Addr} {u : Value} (h : Below a.heap.size a w) (hp : a.heap.size ≤ p.block) : Below a.heap.size a (w.setCell p u) := h.setCell hp u

theorem bcell {W w1 : World} (hb : Below W.heap.size W w1) : (∀ b o, b < W.heap.size → w1.cell? ⟨b, o, none⟩ = W.cell? ⟨b, o, none⟩) ∧ (∀ b o, b < W.heap.size → w1.frozen? ⟨b, o, none⟩ = W.frozen? ⟨b, o, none⟩) :=
  ⟨fun b o h => hb.cell (p := ⟨b, o, none⟩) h, fun b o h => hb.frozen (p := ⟨b, o, none⟩) h⟩

theorem below_of_grown_none {X w1 : World} (h : X.grownBy w1 none) : Below X.heap.size X w1 := (Below.refl _ X).grown h (Nat.le_refl _) (by intro k hk; cases hk)
theorem kept_of_grown {X w1 : World} {g : Nat} (h : X.grownBy w1 (some g)) : (∀ b o, b < X.heap.size → b ≠ g → w1.cell? ⟨b, o, none⟩ = X.cell? ⟨b, o, none⟩) ∧ (∀ b o, b < X.heap.size → b ≠ g → w1.frozen? ⟨b, o, none⟩ = X.frozen? ⟨b, o, none⟩) :=
  ⟨fun b o hb hn => World.cell?_of_block (w := X) (a := ⟨b, o, none⟩) (h.block b hb (by intro e; cases e; exact hn rfl)), fun b o hb hn => World.frozen?_of_block (w := X) (a := ⟨b, o, none⟩) (h.block b hb (by intro e; cases e; exact hn rfl))⟩

theorem _root_.Go.World.ownsRow.kept_below {w w' : World} {base : Nat} {e : TypeId} {size : Nat} {v : Value} {n : Nat} {xs : List Value} (h : w.ownsRow base e size v n xs) (hb : Below w.heap.size w w') : w'.ownsRow base e size v n xs :=
  h.kept (row := none) ⟨hb.os, hb.tape, hb.output, hb.size, fun k hk _ => hb.block k hk⟩ (by cases v.ownBlock <;> simp)

/-- A row of the call's own, from a block behind S on, stays where only S is written. -/
theorem own_keeps {S : Nat} {w w' : World} {base : Nat} {e : TypeId} {size : Nat} {v : Value} {n : Nat} {xs : List Value} (h : w.ownsRow base e size v n xs) (k : Keeps S w w') (hS : S < base) : w'.ownsRow base e size v n xs :=
  h.kept (row := some S) ⟨k.os, k.tape, k.output, k.size, fun b hb hn => k.block b hb (fun e => hn (by rw [e]))⟩ (by
    cases hv : v.ownBlock with
    | none => exact Or.inl rfl
    | some g => exact Or.inr (by have := (h.lt g hv).1; simp; omega))

theorem news_one {w : World} {ad : Addr} {x : Value} (h : w.cell? ad = some x) : ∀ (j : Nat) u, ([x] : List Value)[j]? = some u → w.cell? (ad.add j) = some u := by
  intro j u hj
  cases j with
  | zero => simp at hj; subst hj; simpa [Addr.add] using h
  | succ j => simp at hj

theorem ret_int {k : IntKind} {a b : Int} (h : a = b) : Ending.returned (.int k a) = .returned (.int k b) := by rw [h]

end Go.Proofs.YtkdadbpajhdelaaGreatDoor

set_option linter.unusedVariables false
set_option linter.unusedSimpArgs false
namespace Go.Proofs.YtkdadbpajhdelaaGreatDoor

/-- A pattern: its sets (masks of twelve bits), and its tail (0: none, 46: '.', 33: '!'). -/
structure Pat where
  sets : List Nat
  tail : Nat
/-- The signs that can stand at a place. -/
def Pat.at_ (p : Pat) (i : Nat) : Nat := if i < p.sets.length then p.sets.getD i 0 else if p.tail = 0 then 0 else 4095
/-- Can it end at a place? -/
def Pat.fin (p : Pat) (i : Nat) : Bool := if i < p.sets.length then false else if p.tail = 46 then decide (p.sets.length < i) else if p.tail = 33 then true else decide (i = p.sets.length)
structure PatOk (p : Pat) : Prop where
  tail : p.tail = 0 ∨ p.tail = 46 ∨ p.tail = 33
  sets : ∀ m ∈ p.sets, 0 < m ∧ m < 4096
  len1 : 1 ≤ p.sets.length
  len : p.sets.length ≤ 4

theorem Pat.at_lt {p : Pat} (h : PatOk p) (i : Nat) : p.at_ i < 4096 := by
  unfold Pat.at_
  split
  · rename_i hi
    rw [List.getD_eq_getElem?_getD, List.getElem?_eq_getElem hi, Option.getD_some]
    exact (h.sets _ (List.getElem_mem hi)).2
  · split <;> omega

def matchB (p : Pat) (d : List Nat) : Bool := (List.range d.length).all (fun i => (p.at_ i).testBit (d.getD i 0)) && p.fin d.length
theorem matchB_iff {p : Pat} {d : List Nat} : matchB p d = true ↔ (∀ i, i < d.length → (p.at_ i).testBit (d.getD i 0) = true) ∧ p.fin d.length = true := by
  unfold matchB
  simp [List.all_eq_true]

def tzN (m : Nat) : Nat := ((List.range 12).find? (fun i => m.testBit i)).getD 0
theorem find_range_least {q : Nat → Bool} : ∀ (n x : Nat), (List.range n).find? q = some x → ∀ i, i < x → q i = false := by
  intro n x h i hi
  rw [List.find?_eq_some_iff_getElem] at h
  obtain ⟨_, k, hk, e, hj⟩ := h
  simp at e
  subst e
  have := hj i hi
  simpa using this
theorem tz_bit {m : Nat} (h0 : m ≠ 0) (h1 : m < 4096) : m.testBit (tzN m) = true ∧ tzN m < 12 ∧ ∀ i, m.testBit i = true → tzN m ≤ i := by
  have hex : ∃ i, i < 12 ∧ m.testBit i = true := by
    apply Classical.byContradiction
    intro hn
    apply h0
    apply Nat.eq_of_testBit_eq
    intro i
    rw [Nat.zero_testBit]
    by_cases hi : i < 12
    · cases hb : m.testBit i
      · rfl
      · exact absurd ⟨i, hi, hb⟩ hn
    · exact Nat.testBit_lt_two_pow (Nat.lt_of_lt_of_le h1 (show (2:Nat) ^ 12 ≤ 2 ^ i from Nat.pow_le_pow_right (by omega) (by omega)))
  obtain ⟨i, hi, hb⟩ := hex
  have hs : ((List.range 12).find? (fun i => m.testBit i)).isSome = true := by
    rw [List.find?_isSome]
    exact ⟨i, by simpa using hi, hb⟩
  obtain ⟨x, hx⟩ := Option.isSome_iff_exists.1 hs
  have e : tzN m = x := by unfold tzN; rw [hx]; rfl
  rw [e]
  have hm := List.mem_of_find?_eq_some hx
  have hp := List.find?_some hx
  refine ⟨hp, by simpa using hm, fun j hj => ?_⟩
  rcases Nat.lt_or_ge j x with hlt | hge
  · rw [find_range_least 12 x hx j hlt] at hj; cases hj
  · exact hge

def allAt (l : List Pat) (i : Nat) : Nat := l.foldl (fun a p => a &&& p.at_ i) 4095
theorem all_bit' (l : List Pat) (i j : Nat) : ∀ a : Nat, (l.foldl (fun a p => a &&& p.at_ i) a).testBit j = (a.testBit j && l.all (fun p => (p.at_ i).testBit j)) := by
  induction l with
  | nil => intro a; simp
  | cons p l ih => intro a; simp only [List.foldl_cons, List.all_cons]; rw [ih, Nat.testBit_and, Bool.and_assoc]
theorem all_lt' (l : List Pat) (i : Nat) : ∀ a : Nat, a < 4096 → l.foldl (fun a p => a &&& p.at_ i) a < 4096 := by
  induction l with
  | nil => intro a h; exact h
  | cons p l ih => intro a h; exact ih _ (Nat.lt_of_le_of_lt Nat.and_le_left h)
theorem all_bit (l : List Pat) (i j : Nat) (hj : j < 12) : (allAt l i).testBit j = l.all (fun p => (p.at_ i).testBit j) := by
  unfold allAt
  rw [all_bit']
  have : (4095 : Nat).testBit j = true := by
    have h : (4095 : Nat) = 2 ^ 12 - 1 := rfl
    rw [h, Nat.testBit_two_pow_sub_one]
    simpa using hj
  rw [this, Bool.true_and]
theorem all_lt (l : List Pat) (i : Nat) : allAt l i < 4096 := all_lt' l i 4095 (by omega)
def finAt (l : List Pat) (i : Nat) : Bool := decide (0 < i) && l.all (fun p => p.fin i)

/-- The least of the shortest strings that some patterns share, from a place on. -/
def shareGo (l : List Pat) : Nat → Nat → Option (List Nat)
  | 0, _ => none
  | f + 1, i => if finAt l i then some [] else if allAt l i = 0 then none else (shareGo l f (i + 1)).map (tzN (allAt l i) :: ·)

theorem share_match (l : List Pat) : ∀ (f i : Nat) (x : List Nat), shareGo l f i = some x → (∀ j, j < x.length → x.getD j 0 < 12 ∧ ∀ p ∈ l, (p.at_ (i + j)).testBit (x.getD j 0) = true) ∧ 0 < i + x.length ∧ (∀ p ∈ l, p.fin (i + x.length) = true) ∧ x.length < f := by
  intro f
  induction f with
  | zero => intro i x h; cases h
  | succ f ih =>
    intro i x h
    unfold shareGo at h
    by_cases hf : finAt l i = true
    · rw [if_pos hf] at h
      cases h
      unfold finAt at hf
      simp only [Bool.and_eq_true, decide_eq_true_eq, List.all_eq_true] at hf
      exact ⟨fun j hj => by simp at hj, by simpa using hf.1, fun p hp => hf.2 p hp, by simp⟩
    · rw [if_neg hf] at h
      by_cases h0 : allAt l i = 0
      · rw [if_pos h0] at h; cases h
      · rw [if_neg h0] at h
        obtain ⟨y, hy, rfl⟩ := Option.map_eq_some_iff.1 h
        obtain ⟨k1, k2, k3, k4⟩ := ih (i + 1) y hy
        obtain ⟨t1, t2, t3⟩ := tz_bit h0 (all_lt l i)
        rw [all_bit l i _ t2, List.all_eq_true] at t1
        refine ⟨fun j hj => ?_, by simp; omega, ?_, by simp; omega⟩
        · cases j with
          | zero => exact ⟨t2, fun p hp => t1 p hp⟩
          | succ j =>
            have := k1 j (by simpa using hj)
            simp only [List.getD_cons_succ]
            rw [show i + (j + 1) = i + 1 + j by omega]
            exact this
        · intro p hp
          have := k3 p hp
          rw [List.length_cons, show i + (y.length + 1) = i + 1 + y.length by omega]
          exact this

theorem share_least (l : List Pat) : ∀ (f i : Nat) (d : List Nat), (∀ j, j < d.length → d.getD j 0 < 12 ∧ ∀ p ∈ l, (p.at_ (i + j)).testBit (d.getD j 0) = true) → (∀ p ∈ l, p.fin (i + d.length) = true) → 0 < i + d.length → d.length < f → ∃ x, shareGo l f i = some x ∧ x.length ≤ d.length ∧ ∀ j, j < x.length → x.getD j 0 ≤ d.getD j 0 := by
  intro f
  induction f with
  | zero => intro i d _ _ _ h; omega
  | succ f ih =>
    intro i d h1 h2 h3 h4
    unfold shareGo
    by_cases hf : finAt l i = true
    · rw [if_pos hf]; exact ⟨[], rfl, by simp, fun j hj => by simp at hj⟩
    · rw [if_neg hf]
      cases d with
      | nil =>
        exfalso
        apply hf
        unfold finAt
        simp only [Bool.and_eq_true, decide_eq_true_eq, List.all_eq_true]
        exact ⟨by simpa using h3, fun p hp => by simpa using h2 p hp⟩
      | cons d0 d =>
        have hd0 : d0 < 12 ∧ ∀ p ∈ l, (p.at_ i).testBit d0 = true := h1 0 (by simp)
        have hb : (allAt l i).testBit d0 = true := by
          rw [all_bit l i _ hd0.1, List.all_eq_true]
          exact fun p hp => hd0.2 p hp
        have hne : allAt l i ≠ 0 := by
          intro e; rw [e, Nat.zero_testBit] at hb; cases hb
        rw [if_neg hne]
        obtain ⟨t1, t2, t3⟩ := tz_bit hne (all_lt l i)
        obtain ⟨x, hx, hl, hle⟩ := ih (i + 1) d (fun j hj => by
          have := h1 (j + 1) (by simpa using hj)
          simp only [List.getD_cons_succ] at this
          rw [show i + (j + 1) = i + 1 + j by omega] at this
          exact this) (fun p hp => by
          have := h2 p hp
          rw [List.length_cons, show i + (d.length + 1) = i + 1 + d.length by omega] at this
          exact this) (by omega) (by simp at h4; omega)
        refine ⟨tzN (allAt l i) :: x, by rw [hx]; rfl, by simp; omega, fun j hj => ?_⟩
        cases j with
        | zero => exact t3 d0 hb
        | succ j => simpa using hle j (by simpa using hj)

def shareL (l : List Pat) : Option (List Nat) := shareGo l 31 0
/-- What two patterns match is no less than what they share. -/
theorem share_both {l : List Pat} {d : List Nat} (h : ∀ p ∈ l, matchB p d = true) (hd : ∀ j, j < d.length → d.getD j 0 < 12) (h1 : 1 ≤ d.length) (h2 : d.length ≤ 30) : ∃ x, shareL l = some x ∧ x.length ≤ d.length ∧ ∀ j, j < x.length → x.getD j 0 ≤ d.getD j 0 := by
  refine share_least l 31 0 d (fun j hj => ⟨hd j hj, fun p hp => ?_⟩) (fun p hp => ?_) (by omega) (by omega)
  · rw [Nat.zero_add]; exact (matchB_iff.1 (h p hp)).1 j hj
  · rw [Nat.zero_add]; exact (matchB_iff.1 (h p hp)).2
/-- What patterns share each of them matches. -/
theorem share_each {l : List Pat} {x : List Nat} (h : shareL l = some x) : (∀ p ∈ l, matchB p x = true) ∧ (∀ j, j < x.length → x.getD j 0 < 12) ∧ 1 ≤ x.length ∧ x.length ≤ 30 := by
  obtain ⟨k1, k2, k3, k4⟩ := share_match l 31 0 x h
  refine ⟨fun p hp => matchB_iff.2 ⟨fun i hi => ?_, ?_⟩, fun j hj => (k1 j hj).1, by omega, by omega⟩
  · have := (k1 i hi).2 p hp
    rwa [Nat.zero_add] at this
  · have := k3 p hp
    rwa [Nat.zero_add] at this
/-- Each right pattern matches something. -/
theorem share_one {p : Pat} (h : PatOk p) : ∃ x, shareL [p] = some x := by
  have hm : ∀ i, i < p.sets.length → p.sets.getD i 0 ≠ 0 ∧ p.sets.getD i 0 < 4096 := fun i hi => by
    rw [List.getD_eq_getElem?_getD, List.getElem?_eq_getElem hi, Option.getD_some]
    have := h.sets _ (List.getElem_mem hi)
    omega
  have hl := h.len
  have hl1 := h.len1
  have hg : ∀ i, i < p.sets.length → (p.sets.map tzN).getD i 0 = tzN (p.sets.getD i 0) := fun i hi => by
    simp [List.getD_eq_getElem?_getD, List.getElem?_eq_getElem hi]
  by_cases ht : p.tail = 46
  · have hd : ∀ j, j < (p.sets.map tzN ++ [0]).length → (p.sets.map tzN ++ [0]).getD j 0 < 12 ∧ (p.at_ j).testBit ((p.sets.map tzN ++ [0]).getD j 0) = true := by
      intro j hj
      simp at hj
      unfold Pat.at_
      by_cases hjl : j < p.sets.length
      · rw [if_pos hjl]
        have e : (p.sets.map tzN ++ [0]).getD j 0 = tzN (p.sets.getD j 0) := by
          rw [← hg j hjl]
          simp only [List.getD_eq_getElem?_getD]
          rw [List.getElem?_append_left (by simpa using hjl)]
        rw [e]
        obtain ⟨t1, t2, _⟩ := tz_bit (hm j hjl).1 (hm j hjl).2
        exact ⟨t2, t1⟩
      · rw [if_neg hjl, ht]
        have e : (p.sets.map tzN ++ [0]).getD j 0 = 0 := by
          simp only [List.getD_eq_getElem?_getD]
          rw [List.getElem?_append_right (by simp; omega)]
          rw [show j - (p.sets.map tzN).length = 0 by simp; omega]
          rfl
        rw [e]
        exact ⟨by omega, by decide⟩
    obtain ⟨x, hx, _⟩ := share_both (l := [p]) (d := p.sets.map tzN ++ [0]) (fun q hq => by
      simp at hq; subst hq
      refine matchB_iff.2 ⟨fun i hi => (hd i hi).2, ?_⟩
      unfold Pat.fin
      simp [ht]) (fun j hj => (hd j hj).1) (by simp) (by simp; omega)
    exact ⟨x, hx⟩
  · have hd : ∀ j, j < (p.sets.map tzN).length → (p.sets.map tzN).getD j 0 < 12 ∧ (p.at_ j).testBit ((p.sets.map tzN).getD j 0) = true := by
      intro j hj
      simp at hj
      unfold Pat.at_
      rw [if_pos hj, hg j hj]
      obtain ⟨t1, t2, _⟩ := tz_bit (hm j hj).1 (hm j hj).2
      exact ⟨t2, t1⟩
    obtain ⟨x, hx, _⟩ := share_both (l := [p]) (d := p.sets.map tzN) (fun q hq => by
      simp at hq; subst hq
      refine matchB_iff.2 ⟨fun i hi => (hd i hi).2, ?_⟩
      unfold Pat.fin
      simp [ht]) (fun j hj => (hd j hj).1) (by simpa using hl1) (by simp; omega)
    exact ⟨x, hx⟩
end Go.Proofs.YtkdadbpajhdelaaGreatDoor

set_option linter.unusedVariables false
set_option linter.unusedSimpArgs false
namespace Go.Proofs.YtkdadbpajhdelaaGreatDoor

/-- The twelve elements in their order: how each is written, and its set. -/
def elS : Nat → List UInt8
  | 0 => [42]
  | 1 => [48]
  | 2 => [49]
  | 3 => [50]
  | 4 => [57]
  | 5 => [91, 49, 50, 93]
  | 6 => [91, 50, 57, 93]
  | 7 => [91, 50, 45, 52, 93]
  | 8 => [91, 49, 45, 51, 53, 93]
  | 9 => [78]
  | 10 => [90]
  | _ => [88]
def elM : Nat → Nat
  | 0 => 2
  | 1 => 4
  | 2 => 8
  | 3 => 16
  | 4 => 2048
  | 5 => 24
  | 6 => 2064
  | 7 => 112
  | 8 => 184
  | 9 => 4080
  | 10 => 4088
  | _ => 4092
/-- The tails: 12 '.', 13 none, 14 '!'. -/
def tlS : Nat → List UInt8
  | 12 => [46]
  | 14 => [33]
  | _ => []
def tlB : Nat → Nat
  | 12 => 46
  | 14 => 33
  | _ => 0
/-- A pattern of some elements. -/
structure Els where
  els : List Nat
  tl : Nat
structure ElsOk (e : Els) : Prop where
  each : ∀ x ∈ e.els, x < 12
  tl0 : 12 ≤ e.tl
  tl1 : e.tl ≤ 14
  len1 : 1 ≤ e.els.length
  len : e.els.length ≤ 4
def Els.str (e : Els) : List UInt8 := e.els.flatMap elS ++ tlS e.tl
def Els.pat (e : Els) : Pat := ⟨e.els.map elM, tlB e.tl⟩
theorem elM_ok (x : Nat) : 0 < elM x ∧ elM x < 4096 := by unfold elM; split <;> omega
theorem Els.ok {e : Els} (h : ElsOk e) : PatOk e.pat := by
  refine ⟨?_, ?_, by simpa [Els.pat] using h.len1, by simpa [Els.pat] using h.len⟩
  · show tlB e.tl = 0 ∨ _
    unfold Els.pat tlB
    dsimp
    split <;> simp
  · intro m hm
    simp [Els.pat] at hm
    obtain ⟨x, _, rfl⟩ := hm
    exact elM_ok x

/-! ### One string is one pattern -/
theorem el_cut : ∀ (x y : Nat), x < 12 → y < 12 → ∀ r s : List UInt8, elS x ++ r = elS y ++ s → x = y ∧ r = s := by
  intro x y hx hy r s h
  have hx' : x = 0 ∨ x = 1 ∨ x = 2 ∨ x = 3 ∨ x = 4 ∨ x = 5 ∨ x = 6 ∨ x = 7 ∨ x = 8 ∨ x = 9 ∨ x = 10 ∨ x = 11 := by omega
  have hy' : y = 0 ∨ y = 1 ∨ y = 2 ∨ y = 3 ∨ y = 4 ∨ y = 5 ∨ y = 6 ∨ y = 7 ∨ y = 8 ∨ y = 9 ∨ y = 10 ∨ y = 11 := by omega
  rcases hx' with rfl | rfl | rfl | rfl | rfl | rfl | rfl | rfl | rfl | rfl | rfl | rfl <;> rcases hy' with rfl | rfl | rfl | rfl | rfl | rfl | rfl | rfl | rfl | rfl | rfl | rfl <;> first | (simp [elS] at h; done) | (simp [elS] at h; exact ⟨rfl, h⟩)
theorem el_tl (x t : Nat) (hx : x < 12) (r : List UInt8) (h : elS x ++ r = tlS t) : False := by
  have hx' : x = 0 ∨ x = 1 ∨ x = 2 ∨ x = 3 ∨ x = 4 ∨ x = 5 ∨ x = 6 ∨ x = 7 ∨ x = 8 ∨ x = 9 ∨ x = 10 ∨ x = 11 := by omega
  unfold tlS at h
  split at h <;> rcases hx' with rfl | rfl | rfl | rfl | rfl | rfl | rfl | rfl | rfl | rfl | rfl | rfl <;> simp [elS] at h
theorem tl_inj (s t : Nat) (h0 : 12 ≤ s) (h1 : s ≤ 14) (k0 : 12 ≤ t) (k1 : t ≤ 14) (h : tlS s = tlS t) : s = t := by
  have hs : s = 12 ∨ s = 13 ∨ s = 14 := by omega
  have ht : t = 12 ∨ t = 13 ∨ t = 14 := by omega
  rcases hs with rfl | rfl | rfl <;> rcases ht with rfl | rfl | rfl <;> first | rfl | (simp [tlS] at h)
theorem str_inj' : ∀ (l m : List Nat) (s t : Nat), (∀ x ∈ l, x < 12) → (∀ x ∈ m, x < 12) → 12 ≤ s → s ≤ 14 → 12 ≤ t → t ≤ 14 → l.flatMap elS ++ tlS s = m.flatMap elS ++ tlS t → l = m ∧ s = t
  | [], [], s, t, _, _, h0, h1, k0, k1, h => ⟨rfl, tl_inj s t h0 h1 k0 k1 (by simpa using h)⟩
  | [], y :: m, s, t, _, hm, h0, h1, k0, k1, h => (el_tl y s (hm y (by simp)) (m.flatMap elS ++ tlS t) (by simpa using h.symm)).elim
  | x :: l, [], s, t, hl, _, h0, h1, k0, k1, h => (el_tl x t (hl x (by simp)) (l.flatMap elS ++ tlS s) (by simpa using h)).elim
  | x :: l, y :: m, s, t, hl, hm, h0, h1, k0, k1, h => by
    simp only [List.flatMap_cons, List.append_assoc] at h
    obtain ⟨rfl, h2⟩ := el_cut x y (hl x (by simp)) (hm y (by simp)) _ _ h
    obtain ⟨rfl, rfl⟩ := str_inj' l m s t (fun z hz => hl z (by simp [hz])) (fun z hz => hm z (by simp [hz])) h0 h1 k0 k1 h2
    exact ⟨rfl, rfl⟩
theorem str_inj {a b : Els} (ha : ElsOk a) (hb : ElsOk b) (h : a.str = b.str) : a = b := by
  obtain ⟨h1, h2⟩ := str_inj' a.els b.els a.tl b.tl ha.each hb.each ha.tl0 ha.tl1 hb.tl0 hb.tl1 h
  cases a; cases b; simp_all

/-! ### The order -/
/-- How special a pattern is at a place: a number from 0 to 14. -/
def Els.rk (e : Els) (i : Nat) : Nat := if i < e.els.length then e.els.getD i 0 else if i = e.els.length then e.tl else 13
def lexI (f g : Nat → Nat) : Nat → Nat → Int
  | 0, _ => 0
  | n + 1, i => if f i < g i then -1 else if g i < f i then 1 else lexI f g n (i + 1)
theorem lex_neg (f g : Nat → Nat) : ∀ n i, lexI f g n i = - lexI g f n i
  | 0, i => rfl
  | n + 1, i => by
    unfold lexI
    by_cases h : f i < g i
    · rw [if_pos h, if_neg (by omega), if_pos h]
    · by_cases k : g i < f i
      · rw [if_neg h, if_pos k, if_pos k]; rfl
      · rw [if_neg h, if_neg k, if_neg k, if_neg h]; exact lex_neg f g n (i + 1)
theorem lex_zero (f g : Nat → Nat) : ∀ n i, lexI f g n i = 0 ↔ ∀ j, i ≤ j → j < i + n → f j = g j
  | 0, i => by simp [lexI]; intro j h1 h2; omega
  | n + 1, i => by
    unfold lexI
    by_cases h : f i < g i
    · rw [if_pos h]
      constructor
      · intro e; cases e
      · intro e; have := e i (by omega) (by omega); omega
    · by_cases k : g i < f i
      · rw [if_neg h, if_pos k]
        constructor
        · intro e; cases e
        · intro e; have := e i (by omega) (by omega); omega
      · rw [if_neg h, if_neg k, lex_zero f g n (i + 1)]
        constructor
        · intro e j h1 h2
          by_cases hj : j = i
          · subst hj; omega
          · exact e j (by omega) (by omega)
        · intro e j h1 h2; exact e j (by omega) (by omega)
theorem lex_trans (f g h : Nat → Nat) : ∀ n i, lexI f g n i < 0 → lexI g h n i < 0 → lexI f h n i < 0
  | 0, i => by simp [lexI]
  | n + 1, i => by
    intro h1 h2
    unfold lexI at *
    by_cases a : f i < g i
    · by_cases b : g i < h i
      · rw [if_pos (by omega)]; omega
      · by_cases c : h i < g i
        · rw [if_neg b, if_pos c] at h2; omega
        · rw [if_pos (by omega)]; omega
    · by_cases a' : g i < f i
      · rw [if_neg a, if_pos a'] at h1; omega
      · rw [if_neg a, if_neg a'] at h1
        by_cases b : g i < h i
        · rw [if_pos (by omega)]; omega
        · by_cases c : h i < g i
          · rw [if_neg b, if_pos c] at h2; omega
          · rw [if_neg b, if_neg c] at h2
            rw [if_neg (by omega), if_neg (by omega)]
            exact lex_trans f g h n (i + 1) h1 h2
theorem lex_more (f g : Nat → Nat) : ∀ n m i, (∀ j, i + n ≤ j → f j = g j) → n ≤ m → lexI f g n i = lexI f g m i
  | 0, m, i, h, _ => by
    show 0 = _
    rw [(lex_zero f g m i).2 (fun j h1 _ => h j (by omega))]
  | n + 1, 0, i, _, hm => by omega
  | n + 1, m + 1, i, h, hm => by
    unfold lexI
    rw [lex_more f g n m (i + 1) (fun j hj => h j (by omega)) (by omega)]
/-- What Before answers. -/
def befI (a b : Els) : Int := lexI a.rk b.rk (max a.els.length b.els.length + 1) 0
theorem bef_five {a b : Els} (ha : ElsOk a) (hb : ElsOk b) : befI a b = lexI a.rk b.rk 5 0 := by
  refine lex_more _ _ _ 5 0 (fun j hj => ?_) (by have := ha.len; have := hb.len; omega)
  unfold Els.rk
  rw [if_neg (by omega), if_neg (by omega), if_neg (by omega), if_neg (by omega)]
theorem bef_neg {a b : Els} (ha : ElsOk a) (hb : ElsOk b) : befI a b = - befI b a := by
  rw [bef_five ha hb, bef_five hb ha]; exact lex_neg _ _ _ _
theorem bef_trans {a b c : Els} (ha : ElsOk a) (hb : ElsOk b) (hc : ElsOk c) (h1 : befI a b < 0) (h2 : befI b c < 0) : befI a c < 0 := by
  rw [bef_five ha hb] at h1
  rw [bef_five hb hc] at h2
  rw [bef_five ha hc]
  exact lex_trans _ _ _ _ _ h1 h2
theorem rk_lt {a : Els} (ha : ElsOk a) {i : Nat} (h : i < a.els.length) : a.rk i < 12 := by
  unfold Els.rk
  rw [if_pos h, List.getD_eq_getElem?_getD, List.getElem?_eq_getElem h]
  exact ha.each _ (List.getElem_mem h)
theorem rk_ge {a : Els} (ha : ElsOk a) {i : Nat} (h : ¬ i < a.els.length) : 12 ≤ a.rk i := by
  unfold Els.rk
  rw [if_neg h]
  have := ha.tl0
  split <;> omega
theorem bef_zero {a b : Els} (ha : ElsOk a) (hb : ElsOk b) : befI a b = 0 ↔ a.str = b.str := by
  rw [bef_five ha hb, lex_zero]
  constructor
  · intro h
    have l1 := ha.len
    have l2 := hb.len
    have hl : a.els.length = b.els.length := by
      rcases Nat.lt_trichotomy a.els.length b.els.length with h1 | h1 | h1
      · have h3 := h a.els.length (by omega) (by omega)
        have h4 := rk_ge ha (i := a.els.length) (by omega)
        have h5 := rk_lt hb (i := a.els.length) (by omega)
        omega
      · exact h1
      · have h3 := h b.els.length (by omega) (by omega)
        have h4 := rk_ge hb (i := b.els.length) (by omega)
        have h5 := rk_lt ha (i := b.els.length) (by omega)
        omega
    have ht : a.tl = b.tl := by
      have h3 := h a.els.length (by omega) (by omega)
      unfold Els.rk at h3
      rw [if_neg (by omega), if_pos rfl, if_neg (by omega), if_pos hl] at h3
      exact h3
    have he : a.els = b.els := by
      apply List.ext_getElem hl
      intro i h1 h2
      have h3 := h i (by omega) (by omega)
      unfold Els.rk at h3
      rw [if_pos h1, if_pos h2, List.getD_eq_getElem?_getD, List.getD_eq_getElem?_getD, List.getElem?_eq_getElem h1, List.getElem?_eq_getElem h2] at h3
      exact h3
    unfold Els.str
    rw [he, ht]
  · intro h j _ _
    rw [str_inj ha hb h]
end Go.Proofs.YtkdadbpajhdelaaGreatDoor

set_option linter.unusedVariables false
set_option linter.unusedSimpArgs false
namespace Go.Proofs.YtkdadbpajhdelaaGreatDoor

def uptoN (xs : List Int) (a : Int) : Nat := xs.countP (fun x => decide (x ≤ a))
def oddB (n : Nat) : Bool := decide (n % 2 = 1)

/-- What is known of the turns up to a moment. -/
structure TurnInv (P : Int → Bool) (F : Int) (at_ : Int) (was : Bool) (xs : List Int) : Prop where
  ge : F ≤ at_
  whole : at_ = F ∨ at_ % 60000 = 0
  sorted : ∀ i j, i < j → j < xs.length → xs.getD i 0 < xs.getD j 0
  inside : ∀ x ∈ xs, F ≤ x ∧ x < at_
  turns : ∀ x ∈ xs, F < x → P x ≠ P (x - 1)
  told : ∀ a, F ≤ a → a < at_ → P a = oddB (uptoN xs a)
  odd : was = oddB xs.length
  before : F < at_ → was = P (at_ - 1)

theorem upto_all {xs : List Int} {a : Int} (h : ∀ x ∈ xs, x ≤ a) : uptoN xs a = xs.length := by
  unfold uptoN
  rw [List.countP_eq_length]
  intro x hx
  simpa using h x hx
theorem upto_snoc {xs : List Int} {y a : Int} : uptoN (xs ++ [y]) a = uptoN xs a + if y ≤ a then 1 else 0 := by
  unfold uptoN
  rw [List.countP_append]
  by_cases h : y ≤ a <;> simp [h]
theorem odd_succ (n : Nat) : oddB (n + 1) = !oddB n := by
  unfold oddB
  by_cases h : n % 2 = 1
  · simp [h]; omega
  · simp [h]; omega

theorem TurnInv.start (P : Int → Bool) (F : Int) : TurnInv P F F false [] :=
  ⟨Int.le_refl _, Or.inl rfl, fun i j _ h => by simp at h, (fun x h => by cases h), (fun x h => by cases h), fun a h1 h2 => by omega, rfl, fun h => by omega⟩

theorem same_minute {P : Int → Bool} (hP : ∀ a b, a / 60000 = b / 60000 → P a = P b) {at_ a : Int} (h0 : at_ ≤ a) (h1 : a < at_ + (60000 - at_ % 60000)) : P a = P at_ := hP _ _ (by omega)

/-- Nothing changes at this moment. -/
theorem TurnInv.keep {P : Int → Bool} {F at_ : Int} {was : Bool} {xs : List Int} (hP : ∀ a b, a / 60000 = b / 60000 → P a = P b) (h : TurnInv P F at_ was xs) (hF : 0 ≤ F) (he : P at_ = was) : TurnInv P F (at_ + (60000 - at_ % 60000)) was xs := by
  have hg := h.ge
  refine ⟨by omega, Or.inr (by omega), h.sorted, fun x hx => by have := h.inside x hx; omega, h.turns, ?_, h.odd, ?_⟩
  · intro a a0 a1
    by_cases hl : a < at_
    · exact h.told a a0 hl
    · rw [same_minute hP (by omega) a1, he, h.odd, upto_all (fun x hx => by have := h.inside x hx; omega)]
  · intro _
    rw [same_minute (P := P) hP (at_ := at_) (by omega) (by omega), he]

theorem getD_snoc2 (xs : List Int) (x : Int) (i : Nat) : (xs ++ [x]).getD i 0 = if i < xs.length then xs.getD i 0 else if i = xs.length then x else 0 := by
  simp only [List.getD_eq_getElem?_getD, List.getElem?_append]
  by_cases h : i < xs.length
  · simp [h]
  · rw [if_neg h, if_neg h]
    by_cases h2 : i = xs.length
    · subst h2; simp
    · rw [if_neg h2, List.getElem?_eq_none (by simp; omega)]; rfl

/-- It turns at this moment. -/
theorem TurnInv.turn {P : Int → Bool} {F at_ : Int} {was : Bool} {xs : List Int} (hP : ∀ a b, a / 60000 = b / 60000 → P a = P b) (h : TurnInv P F at_ was xs) (hF : 0 ≤ F) (he : P at_ ≠ was) : TurnInv P F (at_ + (60000 - at_ % 60000)) (P at_) (xs ++ [at_]) := by
  have hg := h.ge
  have hb : P at_ = !was := by cases h1 : P at_ <;> cases was <;> simp_all
  refine ⟨by omega, Or.inr (by omega), ?_, ?_, ?_, ?_, ?_, ?_⟩
  · intro i j hij hj
    simp at hj
    rw [getD_snoc2, getD_snoc2, if_pos (by omega)]
    by_cases h2 : j < xs.length
    · rw [if_pos h2]; exact h.sorted i j hij h2
    · rw [if_neg h2, if_pos (by omega)]
      have hi : i < xs.length := by omega
      have := h.inside (xs.getD i 0) (by rw [List.getD_eq_getElem?_getD, List.getElem?_eq_getElem hi]; exact List.getElem_mem hi)
      omega
  · intro x hx
    rcases List.mem_append.1 hx with hx | hx
    · have := h.inside x hx; omega
    · simp at hx; omega
  · intro x hx hF
    rcases List.mem_append.1 hx with hx | hx
    · exact h.turns x hx hF
    · simp at hx
      subst hx
      rw [← h.before hF]; exact he
  · intro a a0 a1
    rw [upto_snoc]
    by_cases hl : a < at_
    · rw [if_neg (by omega)]; exact h.told a a0 hl
    · rw [if_pos (by omega), odd_succ, same_minute hP (by omega) a1, hb, h.odd, upto_all (fun x hx => by have := h.inside x hx; omega)]
  · rw [List.length_append, hb, h.odd]; exact (odd_succ _).symm
  · intro _
    exact (same_minute (P := P) hP (at_ := at_) (by omega) (by omega)).symm
end Go.Proofs.YtkdadbpajhdelaaGreatDoor

set_option linter.unusedVariables false
set_option linter.unusedSimpArgs false
namespace Go.Proofs.YtkdadbpajhdelaaGreatDoor
open Go.RowKit

/-- Three numbers: a row of hours (days, from, to), or a holiday (day, from, to). -/
structure Tri where
  a : Int
  b : Int
  c : Int
def Tri.cells (x : Tri) : List Value := [.int .i64 x.a, .int .i64 x.b, .int .i64 x.c]
def noTri : Tri := ⟨0, 0, 0⟩
def flatT (l : List Tri) : List Value := l.flatMap Tri.cells
theorem flatT_length (cs : List Tri) : (flatT cs).length = cs.length * 3 := by
  induction cs with
  | nil => rfl
  | cons c cs ih => simp only [flatT, List.flatMap_cons, List.length_append, List.length_cons] at ih ⊢; rw [ih]; simp [Tri.cells]; omega
theorem flatT_at : ∀ (cs : List Tri) (i j : Nat), i < cs.length → j < 3 → (flatT cs)[i * 3 + j]? = (cs.getD i noTri).cells[j]?
  | c :: cs, 0, j, hi, hj => by
    simp only [flatT, List.flatMap_cons, Nat.zero_mul, Nat.zero_add]
    rw [List.getElem?_append_left (by simp [Tri.cells]; omega)]
    rfl
  | c :: cs, i + 1, j, hi, hj => by
    have ih := flatT_at cs i j (by simpa using hi) hj
    simp only [flatT, List.flatMap_cons] at ih ⊢
    rw [List.getElem?_append_right (by simp [Tri.cells]; omega)]
    have e : (i + 1) * 3 + j - c.cells.length = i * 3 + j := by simp [Tri.cells]; omega
    rw [e, ih]
    rfl
theorem flatT_snoc (l : List Tri) (x : Tri) : flatT (l ++ [x]) = flatT l ++ x.cells := by simp [flatT]

/-- Such rows that lie in memory. -/
structure TriRow (w : World) (a : Option Addr) (n : Nat) (l : List Tri) : Prop where
  len : n = l.length
  row : n = 0 ∨ ∃ b off, a = some ⟨b, off, none⟩ ∧ b < w.heap.size ∧ ∀ i, i < n → ∀ j, j < 3 → w.cell? ⟨b, off + i * 3 + j, none⟩ = (l.getD i noTri).cells[j]?
theorem TriRow.below {w w' : World} {a : Option Addr} {n : Nat} {l : List Tri} (h : TriRow w a n l) (hb : Below w.heap.size w w') : TriRow w' a n l := by
  refine ⟨h.len, h.row.imp id ?_⟩
  rintro ⟨b, off, ha, hl, hc⟩
  exact ⟨b, off, ha, Nat.lt_of_lt_of_le hl hb.size, fun i hi j hj => (hb.cell (p := ⟨b, off + i * 3 + j, none⟩) hl).trans (hc i hi j hj)⟩
theorem TriRow.keeps {w w' : World} {S : Nat} {a : Option Addr} {n : Nat} {l : List Tri} (h : TriRow w a n l) (hk : Keeps S w w') (hS : ∀ b off, a = some ⟨b, off, none⟩ → b ≠ S) : TriRow w' a n l := by
  refine ⟨h.len, h.row.imp id ?_⟩
  rintro ⟨b, off, ha, hl, hc⟩
  exact ⟨b, off, ha, Nat.lt_of_lt_of_le hl hk.size, fun i hi j hj => (hk.cell (p := ⟨b, off + i * 3 + j, none⟩) hl (hS b off ha)).trans (hc i hi j hj)⟩
theorem TriRow.of_own {w : World} {base : Nat} {e : TypeId} {v : Value} {n : Nat} {l : List Tri} (h : w.ownsRow base e 3 v n (flatT l)) : ∃ a cap, v = .slice a n cap ∧ TriRow w a n l ∧ ∀ b off, a = some ⟨b, off, none⟩ → base ≤ b := by
  have hl : n = l.length := by have := h.1; rw [flatT_length] at this; omega
  rcases h.2 with ⟨rfl, rfl⟩ | ⟨g, cap, cur, rfl, hb, hg, _⟩
  · exact ⟨none, 0, rfl, ⟨hl, Or.inl rfl⟩, fun b off e => by cases e⟩
  · refine ⟨some ⟨g, 0, none⟩, cap, rfl, ⟨hl, Or.inr ⟨g, 0, rfl, (h.lt g rfl).2, fun i hi j hj => ?_⟩⟩, fun b off e => ?_⟩
    · rw [Nat.zero_add, h.cellAt (i * 3 + j) (by omega), flatT_at l i j (by omega) hj]
    · cases e; exact hb
theorem tri_cells {w : World} {b o : Nat} {x : Tri} (h : ∀ j, j < 3 → w.cell? ⟨b, o + j, none⟩ = x.cells[j]?) : w.cell? ⟨b, o, none⟩ = some (.int .i64 x.a) ∧ w.cell? ⟨b, o + 1, none⟩ = some (.int .i64 x.b) ∧ w.cell? ⟨b, o + 2, none⟩ = some (.int .i64 x.c) :=
  ⟨h 0 (by omega), h 1 (by omega), h 2 (by omega)⟩

/-- Right hours. -/
structure HoursOk (zone : Int) (rows hols : List Tri) : Prop where
  z0 : -1440 ≤ zone
  z1 : zone ≤ 1440
  few1 : rows.length ≤ 50
  few2 : hols.length ≤ 200
  row : ∀ i, i < rows.length → 1 ≤ (rows.getD i noTri).a ∧ (rows.getD i noTri).a ≤ 127 ∧ 0 ≤ (rows.getD i noTri).b ∧ (rows.getD i noTri).b < (rows.getD i noTri).c ∧ (rows.getD i noTri).c ≤ 1440
  hol : ∀ i, i < hols.length → 0 ≤ (hols.getD i noTri).a ∧ (hols.getD i noTri).a ≤ 4000 ∧ (((hols.getD i noTri).b = 0 ∧ (hols.getD i noTri).c = 0) ∨ (0 ≤ (hols.getD i noTri).b ∧ (hols.getD i noTri).b < (hols.getD i noTri).c ∧ (hols.getD i noTri).c ≤ 1440))
  ord : ∀ i, 0 < i → i < hols.length → (hols.getD (i - 1) noTri).a < (hols.getD i noTri).a

def localI (zone at_ : Int) : Int := at_ + zone * 60000
def dayI (zone at_ : Int) : Int := localI zone at_ / 86400000
def minI (zone at_ : Int) : Int := (localI zone at_ - dayI zone at_ * 86400000) / 60000
def bitB (days wd : Int) : Bool := decide (days / 2 ^ wd.toNat % 2 = 1)
def fitsB (m : Int) (x : Tri) : Bool := decide (x.b ≤ m) && decide (m < x.c)
def rowB (wd m : Int) (x : Tri) : Bool := bitB x.a wd && fitsB m x
/-- Are the hours open? -/
def openI (zone : Int) (rows hols : List Tri) (at_ : Int) : Bool :=
  match hols.find? (fun d => decide (d.a = dayI zone at_)) with
  | some d => fitsB (minI zone at_) d
  | none => rows.any (rowB (dayI zone at_ % 7) (minI zone at_))

theorem open_minute (zone : Int) (rows hols : List Tri) (a b : Int) (h : a / 60000 = b / 60000) : openI zone rows hols a = openI zone rows hols b := by
  have h1 : dayI zone a = dayI zone b := by unfold dayI localI; omega
  have h2 : minI zone a = minI zone b := by unfold minI; rw [h1]; unfold localI; omega
  unfold openI
  rw [h1, h2]

theorem find_at {p : Tri → Bool} : ∀ (l : List Tri) (k : Nat), k < l.length → (∀ i, i < k → p (l.getD i noTri) = false) → p (l.getD k noTri) = true → l.find? p = some (l.getD k noTri)
  | c :: cs, 0, _, _, h => by simp at h; simp [h]
  | c :: cs, k + 1, hk, hn, h => by
    have h0 := hn 0 (by omega)
    simp at h0
    have := find_at cs k (by simpa using hk) (fun i hi => by have := hn (i + 1) (by omega); simpa using this) (by simpa using h)
    simp only [List.find?_cons, h0]
    simpa using this
theorem find_no {p : Tri → Bool} (l : List Tri) (h : ∀ i, i < l.length → p (l.getD i noTri) = false) : l.find? p = none := by
  rw [List.find?_eq_none]
  intro x hx
  obtain ⟨i, hi, e⟩ := List.getElem_of_mem hx
  have := h i hi
  rw [List.getD_eq_getElem?_getD, List.getElem?_eq_getElem hi, Option.getD_some, e] at this
  simp [this]
theorem any_no {p : Tri → Bool} (l : List Tri) (h : ∀ i, i < l.length → p (l.getD i noTri) = false) : l.any p = false := by
  rw [List.any_eq_false]
  intro x hx
  obtain ⟨i, hi, e⟩ := List.getElem_of_mem hx
  have := h i hi
  rw [List.getD_eq_getElem?_getD, List.getElem?_eq_getElem hi, Option.getD_some, e] at this
  simp [this]
theorem any_yes {p : Tri → Bool} (l : List Tri) (k : Nat) (hk : k < l.length) (h : p (l.getD k noTri) = true) : l.any p = true := by
  rw [List.any_eq_true]
  refine ⟨l.getD k noTri, ?_, h⟩
  rw [List.getD_eq_getElem?_getD, List.getElem?_eq_getElem hk]
  exact List.getElem_mem hk

theorem day_range {zone at_ : Int} (z0 : -1440 ≤ zone) (z1 : zone ≤ 1440) (a0 : 0 ≤ at_) (a1 : at_ ≤ 345686400000) : -1 ≤ dayI zone at_ ∧ dayI zone at_ ≤ 4002 ∧ 0 ≤ minI zone at_ ∧ minI zone at_ ≤ 1439 := by
  unfold minI dayI localI
  omega

theorem floor_down (a b : Int) (hb : 0 < b) : (a.tmod b < 0 → a.tdiv b - 1 = a / b) ∧ (¬ a.tmod b < 0 → a.tdiv b = a / b) := by
  have h1 := Int.mul_tdiv_add_tmod a b
  have h2 := Int.tmod_lt_of_pos a hb
  have h3 : -b < a.tmod b := Int.lt_tmod_of_pos a hb
  constructor
  · intro h
    exact ((Int.ediv_emod_unique (a := a) (r := a.tmod b + b) hb).2 ⟨by rw [Int.mul_sub]; omega, by omega, by omega⟩).1.symm
  · intro h
    exact ((Int.ediv_emod_unique (a := a) (r := a.tmod b) hb).2 ⟨by omega, by omega, by omega⟩).1.symm
end Go.Proofs.YtkdadbpajhdelaaGreatDoor

namespace Go.Proofs.YtkdadbpajhdelaaGreatDoor
open Go.RowKit

/-- All bytes of l are in cs (what Trim leaves is empty). -/
def allIn (l cs : List UInt8) : Bool := (Lib.trimS l cs).isEmpty
def digitSet : List UInt8 := [48, 49, 50, 51, 52, 53, 54, 55, 56, 57]
def keySet : List UInt8 := [97, 98, 99, 100, 101, 102, 103, 104, 105, 106, 107, 108, 109, 110, 111, 112, 113, 114, 115, 116, 117, 118, 119, 120, 121, 122, 48, 49, 50, 51, 52, 53, 54, 55, 56, 57, 45, 95]

theorem trim_digits (s : ByteArray) (w : World) (hs : s.size ≤ 9223372036854775807) :
    Calls Tryz.prog 80 #[.string s, .string ⟨#[48, 49, 50, 51, 52, 53, 54, 55, 56, 57]⟩] w fun e w' => e = .returned (.string ⟨(Lib.trimS s.data.toList digitSet).toArray⟩) ∧ Below w.heap.size w w' :=
  Tryz.strings_Trim_set s ⟨#[48, 49, 50, 51, 52, 53, 54, 55, 56, 57]⟩ w hs (by decide) (Go.Proofs.ascii_of_all (by decide))

theorem isDigits_any (s : ByteArray) (w : World) (hs : s.size ≤ 9223372036854775807) :
    Calls Tryz.prog 176 #[.string s] w fun e w' => e = .returned (.bool (allIn s.data.toList digitSet)) ∧ Below w.heap.size w w' := by
  have hcon := trim_digits s w hs
  unfold allIn
  generalize Lib.trimS s.data.toList digitSet = r at hcon ⊢
  go_enter Tryz.func176, Tryz.ntmps176
  go_wp2_with (go_at_call 80; refine hcon.mono ?_; rintro e w' ⟨rfl, hB⟩)
  go_ret
  exact ⟨rfl, hB⟩

def digitsB (l : List UInt8) (lo hi : Int) : Bool := decide (lo ≤ l.length) && (decide ((l.length : Int) ≤ hi) && allIn l digitSet)

theorem digitsOf_any (s : ByteArray) (lo hi : Int) (w : World) (hs : s.size ≤ 9223372036854775807) :
    Calls Tryz.prog 141 #[.string s, .int .i64 lo, .int .i64 hi] w fun e w' => e = .returned (.bool (digitsB s.data.toList lo hi)) ∧ Below w.heap.size w w' := by
  have hcon := isDigits_any s w hs
  have hd : Hid (digitsB s.data.toList lo hi = (decide (lo ≤ s.size) && (decide ((s.size : Int) ≤ hi) && allIn s.data.toList digitSet))) := by rfl
  generalize allIn s.data.toList digitSet = r at hcon hd
  by_cases h1 : lo ≤ s.size
  · by_cases h2 : (s.size : Int) ≤ hi
    · go_enter Tryz.func141, Tryz.ntmps141
      go_wp2_with (go_at_call 176; refine hcon.mono ?_; rintro e w' ⟨rfl, hB⟩)
      go_ret
      exact ⟨by rw [hd.out]; simp [h1, h2], hB⟩
    · go_enter Tryz.func141, Tryz.ntmps141
      go_wp2_with (go_at_call 176; refine hcon.mono ?_; rintro e w' ⟨rfl, hB⟩)
      go_ret
      exact ⟨by rw [hd.out, decide_eq_false (show ¬ (s.size : Int) ≤ hi by omega)]; simp, Below.refl _ _⟩
  · go_enter Tryz.func141, Tryz.ntmps141
    go_wp2_with (go_at_call 176; refine hcon.mono ?_; rintro e w' ⟨rfl, hB⟩)
    go_ret
    exact ⟨by rw [hd.out, decide_eq_false (show ¬ lo ≤ (s.size : Int) by omega)]; simp, Below.refl _ _⟩

theorem byte_bne48 (c : UInt8) : ((c.toNat : Int) != 48) = (c != 48) := by
  rw [Bool.eq_iff_iff]; simp [← UInt8.toNat_inj]; omega

def isNumB (l : List UInt8) : Bool := Lib.hasPrefix l [43] && (digitsB (Lib.trimPrefix l [43]) 4 15 && ((Lib.trimPrefix l [43]).headD 0 != 48))

theorem isNumber_any (s : ByteArray) (w : World) (hs : s.size ≤ 9223372036854775807) :
    Calls Tryz.prog 90 #[.string s] w fun e w' => e = .returned (.bool (isNumB s.data.toList)) ∧ Below w.heap.size w w' := by
  have hcon := Tryz.strings_CutPrefix s ⟨#[43]⟩ w
  have hle : (Lib.trimPrefix s.data.toList [43]).length ≤ s.data.toList.length := by unfold Lib.trimPrefix; split <;> simp
  have hd : Hid (isNumB s.data.toList = (Lib.hasPrefix s.data.toList [43] && (digitsB (Lib.trimPrefix s.data.toList [43]) 4 15 && ((Lib.trimPrefix s.data.toList [43]).headD 0 != 48)))) := by rfl
  have hl : s.data.toList.length = s.size := rfl
  rw [hl] at hle
  clear hl
  generalize Lib.trimPrefix s.data.toList [43] = d at hcon hd hle
  generalize Lib.hasPrefix s.data.toList [43] = b at hcon hd
  have hcon2 := fun w => digitsOf_any ⟨d.toArray⟩ 4 15 w (by show d.length ≤ _; omega)
  have h4 : Hid (digitsB d 4 15 = true → 4 ≤ d.length) := by intro h; simp [digitsB] at h; omega
  generalize digitsB d 4 15 = b2 at hcon2 hd h4
  cases b with
  | false =>
    go_enter Tryz.func90, Tryz.ntmps90
    go_wp2_with (go_at_call 140; refine hcon.mono ?_; rintro e w' ⟨rfl, rfl⟩)
    go_ret
    exact ⟨by rw [hd.out]; rfl, Below.refl _ _⟩
  | true =>
    cases b2 with
    | false =>
      go_enter Tryz.func90, Tryz.ntmps90
      go_wp2_with (first | (go_at_call 140; refine hcon.mono ?_; rintro e w' ⟨rfl, rfl⟩) | (go_at_call 141; refine (hcon2 _).mono ?_; rintro e w' ⟨rfl, hB⟩))
      go_ret
      exact ⟨by rw [hd.out]; rfl, hB⟩
    | true =>
      have h44 := h4.out rfl
      obtain ⟨c, d', rfl⟩ : ∃ c d', d = c :: d' := by cases d with | nil => simp at h44 | cons c d' => exact ⟨c, d', rfl⟩
      go_enter Tryz.func90, Tryz.ntmps90
      go_wp2_with (first | (go_at_call 140; refine hcon.mono ?_; rintro e w' ⟨rfl, rfl⟩) | (go_at_call 141; refine (hcon2 _).mono ?_; rintro e w' ⟨rfl, hB⟩))
      go_ret
      exact ⟨by rw [hd.out]; simp only [Bool.true_and, List.headD_cons, ← byte_bne48]; rfl, hB⟩

end Go.Proofs.YtkdadbpajhdelaaGreatDoor

namespace Go.Proofs.YtkdadbpajhdelaaGreatDoor
open Go.RowKit
set_option linter.unusedVariables false
set_option linter.unusedSimpArgs false

def signsL : List UInt8 := [35, 42, 48, 49, 50, 51, 52, 53, 54, 55, 56, 57]
theorem signs_index (c : Int) (w : World) :
    Calls Tryz.prog 171 #[.string ⟨#[35, 42, 48, 49, 50, 51, 52, 53, 54, 55, 56, 57]⟩, .int .u8 c] w fun e w' => e = .returned (.int .i64 (Lib.indexByte signsL c.toNat.toUInt8)) ∧ w' = w := Tryz.strings_IndexByte ⟨#[35, 42, 48, 49, 50, 51, 52, 53, 54, 55, 56, 57]⟩ c w

theorem only_49 (w : World) : Calls Tryz.prog 172 #[.int .u8 49] w fun e w' => e = .returned (.int .u16 8) ∧ w = w' := by
  have hcon := signs_index 49 w
  rw [show Lib.indexByte signsL (49 : Int).toNat.toUInt8 = 3 by decide] at hcon
  go_enter Tryz.func172, Tryz.ntmps172
  go_wp2_with (go_at_call 171; refine hcon.mono ?_; rintro e w' ⟨rfl, rfl⟩)
  go_ret
  exact ⟨rfl, rfl⟩
theorem only_50 (w : World) : Calls Tryz.prog 172 #[.int .u8 50] w fun e w' => e = .returned (.int .u16 16) ∧ w = w' := by
  have hcon := signs_index 50 w
  rw [show Lib.indexByte signsL (50 : Int).toNat.toUInt8 = 4 by decide] at hcon
  go_enter Tryz.func172, Tryz.ntmps172
  go_wp2_with (go_at_call 171; refine hcon.mono ?_; rintro e w' ⟨rfl, rfl⟩)
  go_ret
  exact ⟨rfl, rfl⟩
theorem only_51 (w : World) : Calls Tryz.prog 172 #[.int .u8 51] w fun e w' => e = .returned (.int .u16 32) ∧ w = w' := by
  have hcon := signs_index 51 w
  rw [show Lib.indexByte signsL (51 : Int).toNat.toUInt8 = 5 by decide] at hcon
  go_enter Tryz.func172, Tryz.ntmps172
  go_wp2_with (go_at_call 171; refine hcon.mono ?_; rintro e w' ⟨rfl, rfl⟩)
  go_ret
  exact ⟨rfl, rfl⟩
theorem only_52 (w : World) : Calls Tryz.prog 172 #[.int .u8 52] w fun e w' => e = .returned (.int .u16 64) ∧ w = w' := by
  have hcon := signs_index 52 w
  rw [show Lib.indexByte signsL (52 : Int).toNat.toUInt8 = 6 by decide] at hcon
  go_enter Tryz.func172, Tryz.ntmps172
  go_wp2_with (go_at_call 171; refine hcon.mono ?_; rintro e w' ⟨rfl, rfl⟩)
  go_ret
  exact ⟨rfl, rfl⟩
theorem only_53 (w : World) : Calls Tryz.prog 172 #[.int .u8 53] w fun e w' => e = .returned (.int .u16 128) ∧ w = w' := by
  have hcon := signs_index 53 w
  rw [show Lib.indexByte signsL (53 : Int).toNat.toUInt8 = 7 by decide] at hcon
  go_enter Tryz.func172, Tryz.ntmps172
  go_wp2_with (go_at_call 171; refine hcon.mono ?_; rintro e w' ⟨rfl, rfl⟩)
  go_ret
  exact ⟨rfl, rfl⟩
theorem only_54 (w : World) : Calls Tryz.prog 172 #[.int .u8 54] w fun e w' => e = .returned (.int .u16 256) ∧ w = w' := by
  have hcon := signs_index 54 w
  rw [show Lib.indexByte signsL (54 : Int).toNat.toUInt8 = 8 by decide] at hcon
  go_enter Tryz.func172, Tryz.ntmps172
  go_wp2_with (go_at_call 171; refine hcon.mono ?_; rintro e w' ⟨rfl, rfl⟩)
  go_ret
  exact ⟨rfl, rfl⟩
theorem only_55 (w : World) : Calls Tryz.prog 172 #[.int .u8 55] w fun e w' => e = .returned (.int .u16 512) ∧ w = w' := by
  have hcon := signs_index 55 w
  rw [show Lib.indexByte signsL (55 : Int).toNat.toUInt8 = 9 by decide] at hcon
  go_enter Tryz.func172, Tryz.ntmps172
  go_wp2_with (go_at_call 171; refine hcon.mono ?_; rintro e w' ⟨rfl, rfl⟩)
  go_ret
  exact ⟨rfl, rfl⟩
theorem only_56 (w : World) : Calls Tryz.prog 172 #[.int .u8 56] w fun e w' => e = .returned (.int .u16 1024) ∧ w = w' := by
  have hcon := signs_index 56 w
  rw [show Lib.indexByte signsL (56 : Int).toNat.toUInt8 = 10 by decide] at hcon
  go_enter Tryz.func172, Tryz.ntmps172
  go_wp2_with (go_at_call 171; refine hcon.mono ?_; rintro e w' ⟨rfl, rfl⟩)
  go_ret
  exact ⟨rfl, rfl⟩
theorem only_57 (w : World) : Calls Tryz.prog 172 #[.int .u8 57] w fun e w' => e = .returned (.int .u16 2048) ∧ w = w' := by
  have hcon := signs_index 57 w
  rw [show Lib.indexByte signsL (57 : Int).toNat.toUInt8 = 11 by decide] at hcon
  go_enter Tryz.func172, Tryz.ntmps172
  go_wp2_with (go_at_call 171; refine hcon.mono ?_; rintro e w' ⟨rfl, rfl⟩)
  go_ret
  exact ⟨rfl, rfl⟩

set_option maxHeartbeats 1000000 in
theorem from_29 (w : World) : Calls Tryz.prog 169 #[.int .u8 50, .int .u8 57] w fun e w' => e = .returned (.int .u16 4080) ∧ w = w' := by
  go_enter Tryz.func169, Tryz.ntmps169
  go_wp2_with fail
  refine wp_loop_rounds 9 ?_
  rw [rounds_succ]
  go_wp2_with (go_at_call 172; refine (only_50 _).mono ?_; rintro e w' ⟨rfl, rfl⟩)
  rw [rounds_succ]
  go_wp2_with (go_at_call 172; refine (only_51 _).mono ?_; rintro e w' ⟨rfl, rfl⟩)
  rw [rounds_succ]
  go_wp2_with (go_at_call 172; refine (only_52 _).mono ?_; rintro e w' ⟨rfl, rfl⟩)
  rw [rounds_succ]
  go_wp2_with (go_at_call 172; refine (only_53 _).mono ?_; rintro e w' ⟨rfl, rfl⟩)
  rw [rounds_succ]
  go_wp2_with (go_at_call 172; refine (only_54 _).mono ?_; rintro e w' ⟨rfl, rfl⟩)
  rw [rounds_succ]
  go_wp2_with (go_at_call 172; refine (only_55 _).mono ?_; rintro e w' ⟨rfl, rfl⟩)
  rw [rounds_succ]
  go_wp2_with (go_at_call 172; refine (only_56 _).mono ?_; rintro e w' ⟨rfl, rfl⟩)
  rw [rounds_succ]
  go_wp2_with (go_at_call 172; refine (only_57 _).mono ?_; rintro e w' ⟨rfl, rfl⟩)
  rw [rounds_succ]
  go_wp2_with fail
  go_ret
  exact ⟨rfl, rfl⟩

set_option maxHeartbeats 1000000 in
theorem element_N1 (w : World) : Calls Tryz.prog 132 #[.string ⟨#[78, 49]⟩] w fun e w' => e = .returned (.tuple #[.int .u16 4080, .int .i64 1]) ∧ w = w' := by
  go_enter Tryz.func132, Tryz.ntmps132
  go_wp2_with (go_at_call 169; refine (from_29 _).mono ?_; rintro e w' ⟨rfl, rfl⟩)
  go_ret2
  exact ⟨rfl, rfl⟩

set_option maxHeartbeats 1000000 in
theorem element_1 (w : World) : Calls Tryz.prog 132 #[.string ⟨#[49]⟩] w fun e w' => e = .returned (.tuple #[.int .u16 8, .int .i64 1]) ∧ w = w' := by
  have hcon := fun w => signs_index 49 w
  rw [show Lib.indexByte signsL (49 : Int).toNat.toUInt8 = 3 by decide] at hcon
  go_enter Tryz.func132, Tryz.ntmps132
  go_wp2_with (first | (go_at_call 171; refine (hcon _).mono ?_; rintro e w' ⟨rfl, rfl⟩) | (go_at_call 172; refine (only_49 _).mono ?_; rintro e w' ⟨rfl, rfl⟩))
  go_ret2
  exact ⟨rfl, rfl⟩

theorem Tryz.infoMask : (Tryz.prog.info? 216).map (fun i => (i.zero, i.size, i.bytes)) = some (some (.int .u16 0), 1, 2) := by kernel_rfl

/-- What has been read so far lies in a block of its own. -/
structure RdAt (w wr : World) (k : Nat) : Prop where
  row : ∃ v, wr.cell? ⟨w.heap.size + 1, 0, none⟩ = some v ∧ wr.ownsRow (w.heap.size + 2) 216 1 v k (([.int .u16 4080, .int .u16 8] : List Value).take k)
  tail : wr.cell? ⟨w.heap.size + 1, 1, none⟩ = some (.int .u8 0)
  fro : wr.frozen? ⟨w.heap.size + 1, 0, none⟩ = false
  res0 : wr.cell? ⟨w.heap.size, 0, none⟩ = some (.slice none 0 0)
  res1 : wr.cell? ⟨w.heap.size, 1, none⟩ = some (.int .u8 0)
  fro0 : ∀ j, wr.frozen? ⟨w.heap.size, j, none⟩ = false
  low : Below w.heap.size w wr
  size : w.heap.size + 2 ≤ wr.heap.size

def strLen : Value → Nat | .string s => s.size | _ => 0

theorem rd_next {w wr X w1 : World} {k : Nat} {v : Value} {row : Option Nat} (h : RdAt w wr k) (hX : Below wr.heap.size wr X) (hg : X.grownBy w1 row) (hr : ∀ b, row = some b → w.heap.size + 2 ≤ b)
    (hown : w1.ownsRow (w.heap.size + 2) 216 1 v (k + 1) (([.int .u16 4080, .int .u16 8] : List Value).take (k + 1))) : RdAt w (w1.setCell ⟨w.heap.size + 1, 0, none⟩ v) (k + 1) := by
  have hb : ∀ b, b < w.heap.size + 2 → w1.heap[b]? = wr.heap[b]? := fun b hb => (hg.block b (by have := hX.size; have := h.size; omega) (fun e => by have := hr b e.symm; omega)).trans (hX.block b (by have := h.size; omega))
  have hc : ∀ b o, b < w.heap.size + 2 → w1.cell? ⟨b, o, none⟩ = wr.cell? ⟨b, o, none⟩ := fun b o h => World.cell?_of_block (w := wr) (a := ⟨b, o, none⟩) (hb b h)
  have hf : ∀ b o, b < w.heap.size + 2 → w1.frozen? ⟨b, o, none⟩ = wr.frozen? ⟨b, o, none⟩ := fun b o h => World.frozen?_of_block (w := wr) (a := ⟨b, o, none⟩) (hb b h)
  obtain ⟨v0, hv0, _⟩ := h.row
  refine ⟨⟨v, World.cell?_setCell_same _ _ _ ((hc _ _ (by omega)).trans hv0), ownsRow_setCell_below hown (by show w.heap.size + 1 < _; omega) v⟩, ?_, ?_, ?_, ?_, ?_, ?_, ?_⟩
  · exact (World.cell?_setCell_other _ _ _ _ (by simp)).trans ((hc _ _ (by omega)).trans h.tail)
  · rw [World.frozen?_setCell]; exact (hf _ _ (by omega)).trans h.fro
  · exact (World.cell?_setCell_other _ _ _ _ (by simp)).trans ((hc _ _ (by omega)).trans h.res0)
  · exact (World.cell?_setCell_other _ _ _ _ (by simp)).trans ((hc _ _ (by omega)).trans h.res1)
  · intro j; rw [World.frozen?_setCell]; exact (hf _ _ (by omega)).trans (h.fro0 j)
  · exact ((h.low.trans (hX.mono (by have := h.size; omega))).grown hg (by have := h.size; have := hX.size; omega) (fun b e => by have := hr b e; omega)).setCell (by show w.heap.size ≤ w.heap.size + 1; omega) v
  · have := hg.size; have := hX.size; have := h.size; simp; omega

def ReadPost (w : World) (e : Ending) (w' : World) : Prop := ∃ (g cap : Nat), e = .returned (.tuple #[.agg #[.slice (some ⟨g, 0, none⟩) 2 cap, .int .u8 0], .int .i64 0]) ∧ g < w'.heap.size ∧ w'.cell? ⟨g, 0, none⟩ = some (.int .u16 4080) ∧ w'.cell? ⟨g, 1, none⟩ = some (.int .u16 8) ∧ Below w.heap.size w w'

set_option maxRecDepth 100000 in
set_option maxHeartbeats 2000000 in
theorem read_N1 (w : World) : Calls Tryz.prog 82 #[.string ⟨#[78, 49]⟩] w (ReadPost w) := by
  obtain ⟨i0, hi, hz0, hz1, hz2⟩ := info_parts Tryz.infoMask
  go_enter Tryz.func82, Tryz.ntmps82
  go_wp2_with fail
  go_loopw [5] (fun s5 wr => (s5 = .string ⟨#[78, 49]⟩ ∧ RdAt w wr 0 ∧ wr.cell? ⟨w.heap.size + 1, 0, none⟩ = some (.slice none 0 0)) ∨ (s5 = .string ⟨#[49]⟩ ∧ RdAt w wr 1) ∨ (s5 = .string ⟨#[]⟩ ∧ RdAt w wr 2)) (fun s5 _ => strLen s5)
  case atStart => exact Or.inl ⟨rfl, ⟨⟨.slice none 0 0, by simp, World.ownsRow_nil _ _ _ _⟩, by simp, by simp, by simp, by simp, by simp, (by (try show Below _ _ _); repeat (with_reducible first | exact Below.refl _ _ | assumption | exact Hid.out (by assumption) | refine ext_alloc ?_ | refine ext_drewN ?_ | refine ext_drew ?_ | refine ext_setCell ?_ (Nat.le_refl _) | refine ext_setCell ?_ (Nat.le_succ _) | refine ext_trans ?_ (by assumption) | (refine ext_setCell ?_ (by simp)) | (refine ext_setCell ?_ (by simp at *; omega)))), by simp⟩, by simp⟩
  case round =>
    rcases hrel with ⟨rfl, R, hv⟩ | ⟨rfl, R⟩ | ⟨rfl, R⟩
    · have HR := Lib.hid R
      have t1 := R.tail
      have t2 := R.fro
      have zz : w.heap.size + 1 < wr.heap.size := by have := R.size; omega
      have zz0 : w.heap.size < wr.heap.size := by omega
      clear R
      go_wp2_with (go_at_call 132; refine (element_N1 _).mono ?_; rintro e w' ⟨rfl, rfl⟩)
      go_region_law (refine step_append_lies _ rfl (.tmp 34) (.tmp 36) 160 rfl (w.heap.size + 2) 216 i0 (.int .u16 0) 1 2 Tryz.underlying160 hi hz0 hz1 hz2 rfl (by decide) (.slice none 0 0) 0 [] (by simp [Act.eval, Act.put]) ⟨rfl, Or.inl ⟨rfl, rfl⟩⟩ ⟨wr.heap.size, 0, none⟩ 1 1 [.int .u16 4080] (by simp [Act.eval, Act.put]) rfl (news_one (by go_simp)) (by simp [Value.oneCell']) (by omega) (by simp [maxLen]) (by omega) (by simp; omega) _ rfl ?_; intro g cap w1 hown1 hgr1 hwh1 hg1; have hbl1 := below_of_grown_none hgr1; obtain ⟨qc1, qf1⟩ := bcell hbl1)
      all_goals
        go_simp
        go_wp2_with fail
        go_roundw
        case rel => exact Or.inr (Or.inl ⟨congrArg Value.string (by decide), rd_next HR.out (by (try show Below _ _ _); repeat (with_reducible first | exact Below.refl _ _ | assumption | exact Hid.out (by assumption) | refine ext_alloc ?_ | refine ext_drewN ?_ | refine ext_drew ?_ | refine ext_setCell ?_ (Nat.le_refl _) | refine ext_setCell ?_ (Nat.le_succ _) | refine ext_trans ?_ (by assumption) | (refine ext_setCell ?_ (by simp)) | (refine ext_setCell ?_ (by simp at *; omega)))) hgr1 (fun b e => by cases e) hown1⟩)
        case measure => decide
    · obtain ⟨v, hv, hown⟩ := R.row
      have HR := Lib.hid R
      have t1 := R.tail
      have t2 := R.fro
      have zz : w.heap.size + 1 < wr.heap.size := by have := R.size; omega
      have zz0 : w.heap.size < wr.heap.size := by omega
      clear R
      obtain ⟨g0, cap0, rfl, hg0⟩ : ∃ g0 cap0, v = .slice (some ⟨g0, 0, none⟩) 1 cap0 ∧ w.heap.size + 2 ≤ g0 := by
        rcases hown.2 with ⟨h, h'⟩ | ⟨g, cap, cur, h, h1, h2, h3, h4, h5, h6⟩
        · cases h'
        · exact ⟨g, cap, h, h1⟩
      have nz : ¬ w.heap.size + 1 = g0 := by omega
      have HO := Lib.hid hown
      clear hown
      go_wp2_with (go_at_call 132; refine (element_1 _).mono ?_; rintro e w' ⟨rfl, rfl⟩)
      go_region_law (refine step_append_lies _ rfl (.tmp 34) (.tmp 36) 160 rfl (w.heap.size + 2) 216 i0 (.int .u16 0) 1 2 Tryz.underlying160 hi hz0 hz1 hz2 rfl (by decide) (.slice (some ⟨g0, 0, none⟩) 1 cap0) 1 [.int .u16 4080] (by simp [Act.eval, Act.put]) (by first | exact (HO.out.drew).alloc _ | exact (HO.out.alloc _).drew) ⟨wr.heap.size, 0, none⟩ 1 1 [.int .u16 8] (by simp [Act.eval, Act.put]) rfl (news_one (by go_simp)) (by simp [Value.oneCell']) (by omega) (by simp [maxLen]) (by omega) (by simp; omega) _ rfl ?_; intro g cap w1 hown1 hgr1 hwh1 hg1; obtain ⟨qc1, qf1⟩ := kept_of_grown hgr1)
      all_goals
        go_simp
        go_wp2_with fail
        go_roundw
        case rel => exact Or.inr (Or.inr ⟨congrArg Value.string (by decide), rd_next HR.out (by (try show Below _ _ _); repeat (with_reducible first | exact Below.refl _ _ | assumption | exact Hid.out (by assumption) | refine ext_alloc ?_ | refine ext_drewN ?_ | refine ext_drew ?_ | refine ext_setCell ?_ (Nat.le_refl _) | refine ext_setCell ?_ (Nat.le_succ _) | refine ext_trans ?_ (by assumption) | (refine ext_setCell ?_ (by simp)) | (refine ext_setCell ?_ (by simp at *; omega)))) hgr1 (fun b e => by cases e; exact hg0) hown1⟩)
        case measure => decide
    · obtain ⟨v, hv, hown⟩ := R.row
      have t1 := R.tail
      have t2 := R.fro
      have z0 := R.res0
      have z1 := R.res1
      have z2 := R.fro0
      have HL := Lib.hid R.low
      clear R
      obtain ⟨g0, cap0, rfl, hg0⟩ : ∃ g0 cap0, v = .slice (some ⟨g0, 0, none⟩) 2 cap0 ∧ w.heap.size + 2 ≤ g0 := by
        rcases hown.2 with ⟨h, h'⟩ | ⟨g, cap, cur, h, h1, h2, h3, h4, h5, h6⟩
        · cases h'
        · exact ⟨g, cap, h, h1⟩
      have hlt := (hown.lt g0 rfl).2
      have e0 := hown.cellAt 0 (by omega)
      have e1 := hown.cellAt 1 (by omega)
      have E0 : Hid (wr.cell? ⟨g0, 0, none⟩ = some (.int .u16 4080)) := e0
      have E1 : Hid (wr.cell? ⟨g0, 1, none⟩ = some (.int .u16 8)) := e1
      clear hown e0 e1
      go_wp2_with fail
      refine bodyPost_ret (v := .tuple #[.agg #[.slice (some ⟨g0, 0, none⟩) 2 cap0, .int .u8 0], .int .i64 0]) (by simp [results, Tryz.results82, go_sem, z0, z1]) rfl ⟨g0, cap0, rfl, by simpa using hlt, ?_, ?_, ?_⟩
      · rw [World.cell?_setCell_other _ _ _ _ (by simp <;> omega), World.cell?_setCell_other _ _ _ _ (by simp <;> omega)]; exact E0.out
      · rw [World.cell?_setCell_other _ _ _ _ (by simp <;> omega), World.cell?_setCell_other _ _ _ _ (by simp <;> omega)]; exact E1.out
      · exact ext_setCell (ext_setCell HL.out (Nat.le_refl _)) (Nat.le_refl _)

end Go.Proofs.YtkdadbpajhdelaaGreatDoor

namespace Go.Proofs.YtkdadbpajhdelaaGreatDoor
open Go.RowKit
set_option linter.unusedVariables false
set_option linter.unusedSimpArgs false

/-- The table that counts zeros from below. -/
def tabL : List Int := [0, 1, 28, 2, 29, 14, 24, 3, 30, 22, 20, 15, 25, 17, 4, 8, 31, 27, 13, 23, 21, 19, 16, 7, 26, 12, 18, 6, 11, 5, 10, 9]
def TabAt (w : World) : Prop := 1 < w.heap.size ∧ ∀ i, i < 32 → w.cell? ⟨1, i, none⟩ = some (.int .u8 (tabL.getD i 0))
theorem TabAt.below {w w' : World} (h : TabAt w) (hb : Below w.heap.size w w') : TabAt w' :=
  ⟨Nat.lt_of_lt_of_le h.1 hb.size, fun i hi => (hb.cell (p := ⟨1, i, none⟩) h.1).trans (h.2 i hi)⟩
theorem TabAt.keeps {w w' : World} {S : Nat} (h : TabAt w) (hb : Keeps S w w') (hS : 1 ≠ S) : TabAt w' :=
  ⟨Nat.lt_of_lt_of_le h.1 hb.size, fun i hi => (hb.cell (p := ⟨1, i, none⟩) h.1 hS).trans (h.2 i hi)⟩

theorem zeros_4080 (w : World) (h : TabAt w) : Calls Tryz.prog 134 #[.int .u16 4080] w fun e w' => e = .returned (.int .i64 4) ∧ w = w' := by
  have hc : w.cell? ⟨1, 14, none⟩ = some (.int .u8 4) := h.2 14 (by omega)
  have e0 : IntKind.u16.wrap (-4080) = 61456 := by decide
  have e1 : bits BinOp.and IntKind.u16 4080 61456 = 16 := by decide
  clear h
  go_enter Tryz.func134, Tryz.ntmps134
  go_wp2
  go_ret
  exact ⟨rfl, rfl⟩
theorem zeros_8 (w : World) (h : TabAt w) : Calls Tryz.prog 134 #[.int .u16 8] w fun e w' => e = .returned (.int .i64 3) ∧ w = w' := by
  have hc : w.cell? ⟨1, 7, none⟩ = some (.int .u8 3) := h.2 7 (by omega)
  have e0 : IntKind.u16.wrap (-8) = 65528 := by decide
  have e1 : bits BinOp.and IntKind.u16 8 65528 = 8 := by decide
  clear h
  go_enter Tryz.func134, Tryz.ntmps134
  go_wp2
  go_ret
  exact ⟨rfl, rfl⟩

set_option maxHeartbeats 1000000 in
theorem takes_at (w : World) (g cap : Nat) (i : Nat) (m : Int) (hi : i < 2) (hc : w.cell? ⟨g, i, none⟩ = some (.int .u16 m)) :
    Calls Tryz.prog 133 #[.agg #[.slice (some ⟨g, 0, none⟩) 2 cap, .int .u8 0], .int .i64 i] w fun e w' => e = .returned (.tuple #[.int .u16 m, .bool false]) ∧ Below w.heap.size w w' := by
  have hg : g < w.heap.size := by
    rcases Nat.lt_or_ge g w.heap.size with h | h
    · exact h
    · simp [World.cell?, Array.getElem?_eq_none h] at hc
  go_enter Tryz.func133, Tryz.ntmps133
  go_wp2_with fail
  go_ret2
  exact ⟨rfl, (by (try show Below _ _ _); repeat (with_reducible first | exact Below.refl _ _ | assumption | exact Hid.out (by assumption) | refine ext_alloc ?_ | refine ext_drewN ?_ | refine ext_drew ?_ | refine ext_setCell ?_ (Nat.le_refl _) | refine ext_setCell ?_ (Nat.le_succ _) | refine ext_trans ?_ (by assumption) | (refine ext_setCell ?_ (by simp)) | (refine ext_setCell ?_ (by simp at *; omega))))⟩

set_option maxHeartbeats 1000000 in
theorem takes_end (w : World) (g cap : Nat) :
    Calls Tryz.prog 133 #[.agg #[.slice (some ⟨g, 0, none⟩) 2 cap, .int .u8 0], .int .i64 2] w fun e w' => e = .returned (.tuple #[.int .u16 0, .bool true]) ∧ Below w.heap.size w w' := by
  go_enter Tryz.func133, Tryz.ntmps133
  go_wp2_with fail
  go_quiet (fail)
  go_wp2_with fail
  go_ret2
  exact ⟨rfl, (by (try show Below _ _ _); repeat (with_reducible first | exact Below.refl _ _ | assumption | exact Hid.out (by assumption) | refine ext_alloc ?_ | refine ext_drewN ?_ | refine ext_drew ?_ | refine ext_setCell ?_ (Nat.le_refl _) | refine ext_setCell ?_ (Nat.le_succ _) | refine ext_trans ?_ (by assumption) | (refine ext_setCell ?_ (by simp)) | (refine ext_setCell ?_ (by simp at *; omega))))⟩

theorem infoByteR : (Tryz.prog.info? 5).map (fun i => (i.zero, i.size, i.bytes)) = some (some (.int .u8 0), 1, 1) := by kernel_rfl

set_option maxRecDepth 100000 in
set_option maxHeartbeats 2000000 in
theorem shared_N1 (w : World) (q g cap : Nat) (hq : q < w.heap.size) (hg : g < w.heap.size) (h0 : w.cell? ⟨q, 0, none⟩ = some (.slice (some ⟨g, 0, none⟩) 2 cap)) (h1 : w.cell? ⟨q, 1, none⟩ = some (.int .u8 0)) (h2 : w.cell? ⟨g, 0, none⟩ = some (.int .u16 4080)) (h3 : w.cell? ⟨g, 1, none⟩ = some (.int .u16 8)) (ht : TabAt w) :
    Calls Tryz.prog 83 #[.slice (some ⟨q, 0, none⟩) 1 1] w fun e w' => e = .returned (.tuple #[.string ⟨#[50, 49]⟩, .bool true]) ∧ Below w.heap.size w w' := by
  obtain ⟨i0, hi, hz0, hz1, hz2⟩ := info_parts infoByteR
  have HT := Lib.hid ht
  clear ht
  have e0 : bits BinOp.and IntKind.u16 4095 4080 = 4080 := by decide
  have e1 : bits BinOp.and IntKind.u16 4095 8 = 8 := by decide
  have e2 : bits BinOp.and IntKind.u16 4095 0 = 0 := by decide
  go_enter Tryz.func83, Tryz.ntmps83
  go_wp2_with fail
  refine wp_loop_rounds 3 ?_
  rw [rounds_succ]
  go_wp2_with fail
  refine wp_loop_rounds 2 ?_
  rw [rounds_succ]
  go_wp2_with fail
  refine (takes_at _ g cap 0 4080 (by omega) (by go_simp)).mono ?_
  rintro e w1 ⟨rfl, hB1⟩
  obtain ⟨q1, -⟩ := bcell hB1
  go_wp2_with fail
  rw [rounds_succ]
  go_wp2_with fail
  refine (zeros_4080 _ (HT.out.below (by (try show Below _ _ _); repeat (with_reducible first | exact Below.refl _ _ | assumption | exact Hid.out (by assumption) | refine ext_alloc ?_ | refine ext_drewN ?_ | refine ext_drew ?_ | refine ext_setCell ?_ (Nat.le_refl _) | refine ext_setCell ?_ (Nat.le_succ _) | refine ext_trans ?_ (by assumption) | (refine ext_setCell ?_ (by simp)) | (refine ext_setCell ?_ (by simp at *; omega)))))).mono ?_
  rintro e w' ⟨rfl, rfl⟩
  have H0 := Lib.hid h0
  have H1 := Lib.hid h1
  have H2 := Lib.hid h2
  have H3 := Lib.hid h3
  have z1 : w.heap.size ≤ w1.heap.size := by have := hB1.size; simp at this; omega
  have hW1 : Below w.heap.size w w1 := (by (try show Below _ _ _); repeat (with_reducible first | exact Below.refl _ _ | assumption | exact Hid.out (by assumption) | refine ext_alloc ?_ | refine ext_drewN ?_ | refine ext_drew ?_ | refine ext_setCell ?_ (Nat.le_refl _) | refine ext_setCell ?_ (Nat.le_succ _) | refine ext_trans ?_ (by assumption) | (refine ext_setCell ?_ (by simp)) | (refine ext_setCell ?_ (by simp at *; omega))))
  go_wp2_with (at_builtin; refine wpList_append_own _ rfl (.tmp 43) (.tmp 47) 112 rfl w.heap.size 5 i0 (.int .u8 0) 1 1 Tryz.underlying112 hi hz0 hz1 hz2 rfl (by decide) (.slice none 0 0) 0 [] (by simp [Act.eval]) (World.ownsRow_nil _ _ _ _) ⟨w1.heap.size, 0, none⟩ 1 1 [.int .u8 50] (by simp [Act.eval]) rfl (news_one (by first | (go_simp; done) | (go_simp; rfl))) (by simp [Value.oneCell']) (by simp [maxLen]) (by omega) (by simp; omega) ?_; intro v2 w2 hown2 hgr2 _)
  have hW2 : Below w.heap.size w w2 := (hW1.alloc z1 _).grown hgr2 (by simp; omega) (fun k e => by cases e)
  clear h0 h1 h2 h3 q1 hB1
  have h0w2 : w2.cell? ⟨q, 0, none⟩ = some (.slice (some ⟨g, 0, none⟩) 2 cap) := (hW2.cell (p := ⟨q, 0, none⟩) hq).trans H0.out
  have h1w2 : w2.cell? ⟨q, 1, none⟩ = some (.int .u8 0) := (hW2.cell (p := ⟨q, 1, none⟩) hq).trans H1.out
  have h2w2 : w2.cell? ⟨g, 0, none⟩ = some (.int .u16 4080) := (hW2.cell (p := ⟨g, 0, none⟩) hg).trans H2.out
  have h3w2 : w2.cell? ⟨g, 1, none⟩ = some (.int .u16 8) := (hW2.cell (p := ⟨g, 1, none⟩) hg).trans H3.out
  have hqw2 : q < w2.heap.size := Nat.lt_of_lt_of_le hq hW2.size
  have hgw2 : g < w2.heap.size := Nat.lt_of_lt_of_le hg hW2.size

  have HO2 : Hid (w2.ownsRow w.heap.size 5 1 v2 1 [.int .u8 50]) := hown2
  have n2 : ∃ g2 c2, v2 = .slice (some ⟨g2, 0, none⟩) 1 c2 ∧ w.heap.size ≤ g2 := by
    rcases hown2.2 with ⟨h, h'⟩ | ⟨g, cap, cur, h, h1, h2, h3, h4, h5, h6⟩
    · cases h'
    · exact ⟨g, cap, h, h1⟩
  obtain ⟨g2, c2, hv2, hg2⟩ := n2
  rw [hv2]
  rw [hv2] at HO2
  have Hv2 := Lib.hid hv2
  clear hown2 hv2 hgr2
  rw [rounds_succ]
  go_wp2_with fail
  refine wp_loop_rounds 2 ?_
  rw [rounds_succ]
  go_wp2_with fail
  refine (takes_at _ g cap 1 8 (by omega) (by go_simp)).mono ?_
  rintro e w3 ⟨rfl, hB3⟩
  go_wp2_with fail
  rw [rounds_succ]
  go_wp2_with fail
  have hW3 : Below w.heap.size w w3 := (by (try show Below _ _ _); repeat (with_reducible first | exact Below.refl _ _ | assumption | exact Hid.out (by assumption) | refine ext_alloc ?_ | refine ext_drewN ?_ | refine ext_drew ?_ | refine ext_setCell ?_ (Nat.le_refl _) | refine ext_setCell ?_ (Nat.le_succ _) | refine ext_trans ?_ (by assumption) | (refine ext_setCell ?_ (by simp)) | (refine ext_setCell ?_ (by simp at *; omega))))
  have z3 : w.heap.size ≤ w3.heap.size := hW3.size
  refine (zeros_8 _ (HT.out.below hW3)).mono ?_
  rintro e w' ⟨rfl, rfl⟩
  have HO3 : Hid (w3.ownsRow w.heap.size 5 1 (.slice (some ⟨g2, 0, none⟩) 1 c2) 1 [.int .u8 50]) := HO2.out.kept_below ((ext_alloc (Below.refl _ _)).trans (hB3.mono (by simp)))
  go_wp2_with (at_builtin; refine wpList_append_own _ rfl (.tmp 43) (.tmp 47) 112 rfl w.heap.size 5 i0 (.int .u8 0) 1 1 Tryz.underlying112 hi hz0 hz1 hz2 rfl (by decide) (.slice (some ⟨g2, 0, none⟩) 1 c2) 1 [.int .u8 50] (by simp [Act.eval]) (HO3.out.alloc _) ⟨w3.heap.size, 0, none⟩ 1 1 [.int .u8 49] (by simp [Act.eval]) rfl (news_one (by first | (go_simp; done) | (go_simp; rfl))) (by simp [Value.oneCell']) (by simp [maxLen]) (by omega) (by simp; omega) ?_; intro v4 w4 hown4 hgr4 _)
  have hgr4' : w3.heap.size ≤ w4.heap.size := by have := hgr4.size; simp at this; omega
  have hW4 : Below w.heap.size w w4 := (hW3.alloc z3 _).grown hgr4 (by simp; omega) (fun k e => by cases e; exact hg2)
  have h0w4 : w4.cell? ⟨q, 0, none⟩ = some (.slice (some ⟨g, 0, none⟩) 2 cap) := (hW4.cell (p := ⟨q, 0, none⟩) hq).trans H0.out
  have h1w4 : w4.cell? ⟨q, 1, none⟩ = some (.int .u8 0) := (hW4.cell (p := ⟨q, 1, none⟩) hq).trans H1.out
  have h2w4 : w4.cell? ⟨g, 0, none⟩ = some (.int .u16 4080) := (hW4.cell (p := ⟨g, 0, none⟩) hg).trans H2.out
  have h3w4 : w4.cell? ⟨g, 1, none⟩ = some (.int .u16 8) := (hW4.cell (p := ⟨g, 1, none⟩) hg).trans H3.out
  have hqw4 : q < w4.heap.size := Nat.lt_of_lt_of_le hq hW4.size
  have hgw4 : g < w4.heap.size := Nat.lt_of_lt_of_le hg hW4.size

  have n4 : ∃ g4 c4, v4 = .slice (some ⟨g4, 0, none⟩) 2 c4 ∧ w.heap.size ≤ g4 := by
    rcases hown4.2 with ⟨h, h'⟩ | ⟨g, cap, cur, h, h1, h2, h3, h4, h5, h6⟩
    · cases h'
    · exact ⟨g, cap, h, h1⟩
  have HO4 : Hid (w4.ownsRow w.heap.size 5 1 v4 2 [.int .u8 50, .int .u8 49]) := hown4
  obtain ⟨g4, c4, hv4, hg4⟩ := n4
  rw [hv4]
  rw [hv4] at HO4
  have Hv4 := Lib.hid hv4
  clear hown4 hv4 hgr4
  rw [rounds_succ]
  go_wp2_with fail
  refine wp_loop_rounds 2 ?_
  rw [rounds_succ]
  go_wp2_with fail
  refine (takes_end _ g cap).mono ?_
  rintro e w5 ⟨rfl, hB5⟩
  go_wp2_with fail
  rw [rounds_succ]
  have HO5 : Hid (w5.ownsRow w.heap.size 5 1 (.slice (some ⟨g4, 0, none⟩) 2 c4) 2 [.int .u8 50, .int .u8 49]) := HO4.out.kept_below ((ext_alloc (Below.refl _ _)).trans (hB5.mono (by simp)))
  have k0 : w5.cell? ⟨g4, 0, none⟩ = some (.int .u8 50) := HO5.out.cellAt 0 (by omega)
  have k1 : w5.cell? ⟨g4, 1, none⟩ = some (.int .u8 49) := HO5.out.cellAt 1 (by omega)
  have hload : (loadCells ⟨g4, 0, none⟩ 2).run Tryz.prog w5 = .ok (([50, 49] : List Int).map (Value.int .u8)).toArray w5 := by
    have := run_loadCells_list (P := Tryz.prog) w5 ⟨g4, 0, none⟩ [.int .u8 50, .int .u8 49] (fun j v hj => by
      match j, hj with
      | 0, hj => (simp at hj; subst hj; simpa [Addr.add] using k0)
      | 1, hj => (simp at hj; subst hj; simpa [Addr.add] using k1)
      | j + 2, hj => simp at hj)
    exact this
  have hconv : (convert 112 9 (.slice (some ⟨g4, 0, none⟩) 2 c4)).run Tryz.prog w5 = .ok (.string ⟨#[50, 49]⟩) w5 := by
    rw [run_convert_bytes_string w5 112 9 5 _ _ _ Tryz.underlying112 Tryz.underlying5 Tryz.underlying9, run_bytesToString w5 ⟨g4, 0, none⟩ 2 c4 [50, 49] hload]
    rfl
  have hW5 : Below w.heap.size w w5 := (by (try show Below _ _ _); repeat (with_reducible first | exact Below.refl _ _ | assumption | exact Hid.out (by assumption) | refine ext_alloc ?_ | refine ext_drewN ?_ | refine ext_drew ?_ | refine ext_setCell ?_ (Nat.le_refl _) | refine ext_setCell ?_ (Nat.le_succ _) | refine ext_trans ?_ (by assumption) | (refine ext_setCell ?_ (by simp)) | (refine ext_setCell ?_ (by simp at *; omega))))
  clear hload k0 k1
  go_wp2_with fail
  go_ret2
  exact ⟨rfl, hW5⟩

set_option maxRecDepth 100000 in
set_option maxHeartbeats 1000000 in
theorem least_ready (w : World) (ht : TabAt w) : Calls Tryz.prog 36 #[.string ⟨#[78, 49]⟩] w fun e w' => e = .returned (.tuple #[.string ⟨#[50, 49]⟩, .int .i64 0]) ∧ Below w.heap.size w w' := by
  have HT := Lib.hid ht
  clear ht
  go_enter Tryz.func36, Tryz.ntmps36
  go_wp2_with fail
  refine (read_N1 _).mono ?_
  rintro e w1 ⟨g, cap, rfl, hg, c0, c1, hB1⟩
  go_wp2_with fail
  refine (shared_N1 _ _ g cap ?_ ?_ ?_ ?_ ?_ ?_ ?_).mono ?_
  · simp
  · simp; omega
  · go_simp
  · go_simp
  · go_simp
  · go_simp
  · exact HT.out.below (ext_alloc (ext_alloc hB1))
  rintro e w2 ⟨rfl, hB2⟩
  go_wp2_with fail
  go_ret2
  exact ⟨rfl, (by (try show Below _ _ _); repeat (with_reducible first | exact Below.refl _ _ | assumption | exact Hid.out (by assumption) | refine ext_alloc ?_ | refine ext_drewN ?_ | refine ext_drew ?_ | refine ext_setCell ?_ (Nat.le_refl _) | refine ext_setCell ?_ (Nat.le_succ _) | refine ext_trans ?_ (by assumption) | (refine ext_setCell ?_ (by simp)) | (refine ext_setCell ?_ (by simp at *; omega))))⟩
end Go.Proofs.YtkdadbpajhdelaaGreatDoor

namespace Go.Proofs.YtkdadbpajhdelaaGreatDoor
open Go.RowKit
set_option linter.unusedVariables false
set_option linter.unusedSimpArgs false

theorem only_35 (w : World) : Calls Tryz.prog 172 #[.int .u8 35] w fun e w' => e = .returned (.int .u16 1) ∧ w = w' := by
  have hcon := signs_index 35 w
  rw [show Lib.indexByte signsL (35 : Int).toNat.toUInt8 = 0 by decide] at hcon
  go_enter Tryz.func172, Tryz.ntmps172
  go_wp2_with (go_at_call 171; refine hcon.mono ?_; rintro e w' ⟨rfl, rfl⟩)
  go_ret
  exact ⟨rfl, rfl⟩
theorem only_42 (w : World) : Calls Tryz.prog 172 #[.int .u8 42] w fun e w' => e = .returned (.int .u16 2) ∧ w = w' := by
  have hcon := signs_index 42 w
  rw [show Lib.indexByte signsL (42 : Int).toNat.toUInt8 = 1 by decide] at hcon
  go_enter Tryz.func172, Tryz.ntmps172
  go_wp2_with (go_at_call 171; refine hcon.mono ?_; rintro e w' ⟨rfl, rfl⟩)
  go_ret
  exact ⟨rfl, rfl⟩
theorem only_48 (w : World) : Calls Tryz.prog 172 #[.int .u8 48] w fun e w' => e = .returned (.int .u16 4) ∧ w = w' := by
  have hcon := signs_index 48 w
  rw [show Lib.indexByte signsL (48 : Int).toNat.toUInt8 = 2 by decide] at hcon
  go_enter Tryz.func172, Tryz.ntmps172
  go_wp2_with (go_at_call 171; refine hcon.mono ?_; rintro e w' ⟨rfl, rfl⟩)
  go_ret
  exact ⟨rfl, rfl⟩
/-- The sign of a number. -/
def signN (i : Nat) : UInt8 := signsL.getD i 0
theorem only_at (i : Nat) (hi : i < 12) (w : World) : Calls Tryz.prog 172 #[.int .u8 (signN i).toNat] w fun e w' => e = .returned (.int .u16 ((2 ^ i : Nat) : Int)) ∧ w = w' := by
  match i, hi with
  | 0, _ => exact only_35 w
  | 1, _ => exact only_42 w
  | 2, _ => exact only_48 w
  | 3, _ => exact only_49 w
  | 4, _ => exact only_50 w
  | 5, _ => exact only_51 w
  | 6, _ => exact only_52 w
  | 7, _ => exact only_53 w
  | 8, _ => exact only_54 w
  | 9, _ => exact only_55 w
  | 10, _ => exact only_56 w
  | 11, _ => exact only_57 w

set_option maxHeartbeats 1000000 in
theorem from_48_57 (w : World) : Calls Tryz.prog 169 #[.int .u8 48, .int .u8 57] w fun e w' => e = .returned (.int .u16 4092) ∧ w = w' := by
  go_enter Tryz.func169, Tryz.ntmps169
  go_wp2_with fail
  refine wp_loop_rounds 11 ?_
  rw [rounds_succ]
  go_wp2_with (go_at_call 172; refine (only_48 _).mono ?_; rintro e w' ⟨rfl, rfl⟩)
  rw [rounds_succ]
  go_wp2_with (go_at_call 172; refine (only_49 _).mono ?_; rintro e w' ⟨rfl, rfl⟩)
  rw [rounds_succ]
  go_wp2_with (go_at_call 172; refine (only_50 _).mono ?_; rintro e w' ⟨rfl, rfl⟩)
  rw [rounds_succ]
  go_wp2_with (go_at_call 172; refine (only_51 _).mono ?_; rintro e w' ⟨rfl, rfl⟩)
  rw [rounds_succ]
  go_wp2_with (go_at_call 172; refine (only_52 _).mono ?_; rintro e w' ⟨rfl, rfl⟩)
  rw [rounds_succ]
  go_wp2_with (go_at_call 172; refine (only_53 _).mono ?_; rintro e w' ⟨rfl, rfl⟩)
  rw [rounds_succ]
  go_wp2_with (go_at_call 172; refine (only_54 _).mono ?_; rintro e w' ⟨rfl, rfl⟩)
  rw [rounds_succ]
  go_wp2_with (go_at_call 172; refine (only_55 _).mono ?_; rintro e w' ⟨rfl, rfl⟩)
  rw [rounds_succ]
  go_wp2_with (go_at_call 172; refine (only_56 _).mono ?_; rintro e w' ⟨rfl, rfl⟩)
  rw [rounds_succ]
  go_wp2_with (go_at_call 172; refine (only_57 _).mono ?_; rintro e w' ⟨rfl, rfl⟩)
  rw [rounds_succ]
  go_wp2_with fail
  go_ret
  exact ⟨rfl, rfl⟩
set_option maxHeartbeats 1000000 in
theorem from_49_57 (w : World) : Calls Tryz.prog 169 #[.int .u8 49, .int .u8 57] w fun e w' => e = .returned (.int .u16 4088) ∧ w = w' := by
  go_enter Tryz.func169, Tryz.ntmps169
  go_wp2_with fail
  refine wp_loop_rounds 10 ?_
  rw [rounds_succ]
  go_wp2_with (go_at_call 172; refine (only_49 _).mono ?_; rintro e w' ⟨rfl, rfl⟩)
  rw [rounds_succ]
  go_wp2_with (go_at_call 172; refine (only_50 _).mono ?_; rintro e w' ⟨rfl, rfl⟩)
  rw [rounds_succ]
  go_wp2_with (go_at_call 172; refine (only_51 _).mono ?_; rintro e w' ⟨rfl, rfl⟩)
  rw [rounds_succ]
  go_wp2_with (go_at_call 172; refine (only_52 _).mono ?_; rintro e w' ⟨rfl, rfl⟩)
  rw [rounds_succ]
  go_wp2_with (go_at_call 172; refine (only_53 _).mono ?_; rintro e w' ⟨rfl, rfl⟩)
  rw [rounds_succ]
  go_wp2_with (go_at_call 172; refine (only_54 _).mono ?_; rintro e w' ⟨rfl, rfl⟩)
  rw [rounds_succ]
  go_wp2_with (go_at_call 172; refine (only_55 _).mono ?_; rintro e w' ⟨rfl, rfl⟩)
  rw [rounds_succ]
  go_wp2_with (go_at_call 172; refine (only_56 _).mono ?_; rintro e w' ⟨rfl, rfl⟩)
  rw [rounds_succ]
  go_wp2_with (go_at_call 172; refine (only_57 _).mono ?_; rintro e w' ⟨rfl, rfl⟩)
  rw [rounds_succ]
  go_wp2_with fail
  go_ret
  exact ⟨rfl, rfl⟩
set_option maxHeartbeats 1000000 in
theorem from_50_52 (w : World) : Calls Tryz.prog 169 #[.int .u8 50, .int .u8 52] w fun e w' => e = .returned (.int .u16 112) ∧ w = w' := by
  go_enter Tryz.func169, Tryz.ntmps169
  go_wp2_with fail
  refine wp_loop_rounds 4 ?_
  rw [rounds_succ]
  go_wp2_with (go_at_call 172; refine (only_50 _).mono ?_; rintro e w' ⟨rfl, rfl⟩)
  rw [rounds_succ]
  go_wp2_with (go_at_call 172; refine (only_51 _).mono ?_; rintro e w' ⟨rfl, rfl⟩)
  rw [rounds_succ]
  go_wp2_with (go_at_call 172; refine (only_52 _).mono ?_; rintro e w' ⟨rfl, rfl⟩)
  rw [rounds_succ]
  go_wp2_with fail
  go_ret
  exact ⟨rfl, rfl⟩
set_option maxHeartbeats 1000000 in
theorem from_49_51 (w : World) : Calls Tryz.prog 169 #[.int .u8 49, .int .u8 51] w fun e w' => e = .returned (.int .u16 56) ∧ w = w' := by
  go_enter Tryz.func169, Tryz.ntmps169
  go_wp2_with fail
  refine wp_loop_rounds 4 ?_
  rw [rounds_succ]
  go_wp2_with (go_at_call 172; refine (only_49 _).mono ?_; rintro e w' ⟨rfl, rfl⟩)
  rw [rounds_succ]
  go_wp2_with (go_at_call 172; refine (only_50 _).mono ?_; rintro e w' ⟨rfl, rfl⟩)
  rw [rounds_succ]
  go_wp2_with (go_at_call 172; refine (only_51 _).mono ?_; rintro e w' ⟨rfl, rfl⟩)
  rw [rounds_succ]
  go_wp2_with fail
  go_ret
  exact ⟨rfl, rfl⟩
set_option maxHeartbeats 1000000 in
theorem from_49_49 (w : World) : Calls Tryz.prog 169 #[.int .u8 49, .int .u8 49] w fun e w' => e = .returned (.int .u16 8) ∧ w = w' := by
  go_enter Tryz.func169, Tryz.ntmps169
  go_wp2_with fail
  refine wp_loop_rounds 2 ?_
  rw [rounds_succ]
  go_wp2_with (go_at_call 172; refine (only_49 _).mono ?_; rintro e w' ⟨rfl, rfl⟩)
  rw [rounds_succ]
  go_wp2_with fail
  go_ret
  exact ⟨rfl, rfl⟩
set_option maxHeartbeats 1000000 in
theorem from_50_50 (w : World) : Calls Tryz.prog 169 #[.int .u8 50, .int .u8 50] w fun e w' => e = .returned (.int .u16 16) ∧ w = w' := by
  go_enter Tryz.func169, Tryz.ntmps169
  go_wp2_with fail
  refine wp_loop_rounds 2 ?_
  rw [rounds_succ]
  go_wp2_with (go_at_call 172; refine (only_50 _).mono ?_; rintro e w' ⟨rfl, rfl⟩)
  rw [rounds_succ]
  go_wp2_with fail
  go_ret
  exact ⟨rfl, rfl⟩
set_option maxHeartbeats 1000000 in
theorem from_53_53 (w : World) : Calls Tryz.prog 169 #[.int .u8 53, .int .u8 53] w fun e w' => e = .returned (.int .u16 128) ∧ w = w' := by
  go_enter Tryz.func169, Tryz.ntmps169
  go_wp2_with fail
  refine wp_loop_rounds 2 ?_
  rw [rounds_succ]
  go_wp2_with (go_at_call 172; refine (only_53 _).mono ?_; rintro e w' ⟨rfl, rfl⟩)
  rw [rounds_succ]
  go_wp2_with fail
  go_ret
  exact ⟨rfl, rfl⟩
set_option maxHeartbeats 1000000 in
theorem from_57_57 (w : World) : Calls Tryz.prog 169 #[.int .u8 57, .int .u8 57] w fun e w' => e = .returned (.int .u16 2048) ∧ w = w' := by
  go_enter Tryz.func169, Tryz.ntmps169
  go_wp2_with fail
  refine wp_loop_rounds 2 ?_
  rw [rounds_succ]
  go_wp2_with (go_at_call 172; refine (only_57 _).mono ?_; rintro e w' ⟨rfl, rfl⟩)
  rw [rounds_succ]
  go_wp2_with fail
  go_ret
  exact ⟨rfl, rfl⟩
set_option maxRecDepth 100000 in
theorem ones_24 (w : World) : Calls Tryz.prog 194 #[.int .u16 24] w fun e w' => e = .returned (.int .i64 2) ∧ ∃ q, w' = w.drewN q := by
  have e1 : bits BinOp.and IntKind.u16 24 255 = 24 := by decide
  go_enter Tryz.func194, Tryz.ntmps194
  go_wp2_with fail
  go_quiet (fail)
  go_wp2_with fail
  go_ret
  exact ⟨ret_int (by first | rfl | decide), _, rfl⟩
set_option maxRecDepth 100000 in
theorem ones_2064 (w : World) : Calls Tryz.prog 194 #[.int .u16 2064] w fun e w' => e = .returned (.int .i64 2) ∧ ∃ q, w' = w.drewN q := by
  have e1 : bits BinOp.and IntKind.u16 2064 255 = 16 := by decide
  go_enter Tryz.func194, Tryz.ntmps194
  go_wp2_with fail
  go_quiet (fail)
  go_wp2_with fail
  go_ret
  exact ⟨ret_int (by first | rfl | decide), _, rfl⟩
set_option maxRecDepth 100000 in
theorem ones_112 (w : World) : Calls Tryz.prog 194 #[.int .u16 112] w fun e w' => e = .returned (.int .i64 3) ∧ ∃ q, w' = w.drewN q := by
  have e1 : bits BinOp.and IntKind.u16 112 255 = 112 := by decide
  go_enter Tryz.func194, Tryz.ntmps194
  go_wp2_with fail
  go_quiet (fail)
  go_wp2_with fail
  go_ret
  exact ⟨ret_int (by first | rfl | decide), _, rfl⟩
set_option maxRecDepth 100000 in
theorem ones_184 (w : World) : Calls Tryz.prog 194 #[.int .u16 184] w fun e w' => e = .returned (.int .i64 4) ∧ ∃ q, w' = w.drewN q := by
  have e1 : bits BinOp.and IntKind.u16 184 255 = 184 := by decide
  go_enter Tryz.func194, Tryz.ntmps194
  go_wp2_with fail
  go_quiet (fail)
  go_wp2_with fail
  go_ret
  exact ⟨ret_int (by first | rfl | decide), _, rfl⟩

theorem addr_add0' (b j : Nat) : (⟨b, 0, none⟩ : Addr).add j = ⟨b, j, none⟩ := by unfold Addr.add; split <;> simp_all
theorem push_bytes (l : List UInt8) : ∀ a : ByteArray, List.foldl (fun r (n : Int) => r.push (UInt8.ofNat n.toNat)) a (List.map (fun b => (b.toNat : Int)) l) = ⟨a.data ++ l.toArray⟩ := by
  induction l with
  | nil => intro a; simp
  | cons x l ih =>
    intro a
    simp only [List.map_cons, List.foldl_cons]
    rw [ih]
    congr 1
    simp [ByteArray.push]
/-- Bytes of the call's own as a string. -/
theorem conv_bytes (w : World) (g n cp : Nat) (l : List UInt8) (hn : l.length = n) (hc : ∀ j, j < n → w.cell? ⟨g, j, none⟩ = (l.map fun b => Value.int .u8 b.toNat)[j]?) : (convert 112 9 (.slice (some ⟨g, 0, none⟩) n cp)).run Tryz.prog w = .ok (.string ⟨l.toArray⟩) w := by
  have hload : (loadCells ⟨g, 0, none⟩ n).run Tryz.prog w = .ok ((l.map fun b => (b.toNat : Int)).map (Value.int .u8)).toArray w := by
    have := run_loadCells_list (P := Tryz.prog) w ⟨g, 0, none⟩ (l.map fun b => Value.int .u8 b.toNat) (fun j v hj => by
      rw [addr_add0']
      have hj2 : j < n := by have := (List.getElem?_eq_some_iff.1 hj).1; simpa [hn] using this
      rw [hc j hj2]; exact hj)
    rw [List.length_map, hn] at this
    rw [this]
    simp [Function.comp_def]
  rw [run_convert_bytes_string _ 112 9 5 _ _ _ Tryz.underlying112 Tryz.underlying5 Tryz.underlying9, run_bytesToString _ ⟨g, 0, none⟩ n cp (l.map fun b => (b.toNat : Int)) hload]
  rw [push_bytes]
  simp

set_option maxRecDepth 100000 in
set_option maxHeartbeats 4000000 in
theorem digits_24 (w : World) : Calls Tryz.prog 195 #[.int .u16 24] w fun e w' => e = .returned (.string ⟨#[49, 50]⟩) ∧ Below w.heap.size w w' := by
  go_enter Tryz.func195, Tryz.ntmps195
  go_wp2_with fail
  refine wp_loop_rounds 10 ?_
  rw [rounds_succ]
  go_wp2_with (go_at_call 172; refine (only_48 _).mono ?_; rintro e w' ⟨rfl, rfl⟩)
  rw [rounds_succ]
  go_wp2_with (go_at_call 172; refine (only_49 _).mono ?_; rintro e w' ⟨rfl, rfl⟩)
  refine wp_loop_rounds 2 ?_
  rw [rounds_succ]
  go_wp2_with (go_at_call 172; refine (only_50 _).mono ?_; rintro e w' ⟨rfl, rfl⟩)
  rw [rounds_succ]
  have hcv0 : (convert 112 9 (.slice (some ⟨w.heap.size, 0, none⟩) 2 2)).run Tryz.prog (w.alloc (.cells #[.int .u8 49, .int .u8 50] 5)) = .ok (.string ⟨#[49, 50]⟩) (w.alloc (.cells #[.int .u8 49, .int .u8 50] 5)) := conv_bytes _ _ 2 _ [49, 50] rfl (fun j hj => by match j, hj with | 0, _ => (first | (go_simp; done) | (go_simp; rfl)) | 1, _ => (first | (go_simp; done) | (go_simp; rfl)))
  go_wp2_with (go_at_call 172; refine (only_51 _).mono ?_; rintro e w' ⟨rfl, rfl⟩)
  clear hcv0
  rw [rounds_succ]
  go_wp2_with (go_at_call 172; refine (only_51 _).mono ?_; rintro e w' ⟨rfl, rfl⟩)
  rw [rounds_succ]
  go_wp2_with (go_at_call 172; refine (only_52 _).mono ?_; rintro e w' ⟨rfl, rfl⟩)
  rw [rounds_succ]
  go_wp2_with (go_at_call 172; refine (only_53 _).mono ?_; rintro e w' ⟨rfl, rfl⟩)
  rw [rounds_succ]
  go_wp2_with (go_at_call 172; refine (only_54 _).mono ?_; rintro e w' ⟨rfl, rfl⟩)
  rw [rounds_succ]
  go_wp2_with (go_at_call 172; refine (only_55 _).mono ?_; rintro e w' ⟨rfl, rfl⟩)
  rw [rounds_succ]
  go_wp2_with (go_at_call 172; refine (only_56 _).mono ?_; rintro e w' ⟨rfl, rfl⟩)
  rw [rounds_succ]
  go_wp2_with (go_at_call 172; refine (only_57 _).mono ?_; rintro e w' ⟨rfl, rfl⟩)
  rw [rounds_succ]
  go_wp2_with fail
  go_ret
  exact ⟨rfl, (by (try show Below _ _ _); repeat (with_reducible first | exact Below.refl _ _ | assumption | exact Hid.out (by assumption) | refine ext_alloc ?_ | refine ext_drewN ?_ | refine ext_drew ?_ | refine ext_setCell ?_ (Nat.le_refl _) | refine ext_setCell ?_ (Nat.le_succ _) | refine ext_trans ?_ (by assumption) | (refine ext_setCell ?_ (by simp)) | (refine ext_setCell ?_ (by simp at *; omega))))⟩
set_option maxRecDepth 100000 in
set_option maxHeartbeats 4000000 in
theorem digits_2064 (w : World) : Calls Tryz.prog 195 #[.int .u16 2064] w fun e w' => e = .returned (.string ⟨#[50, 57]⟩) ∧ Below w.heap.size w w' := by
  go_enter Tryz.func195, Tryz.ntmps195
  go_wp2_with fail
  refine wp_loop_rounds 11 ?_
  rw [rounds_succ]
  go_wp2_with (go_at_call 172; refine (only_48 _).mono ?_; rintro e w' ⟨rfl, rfl⟩)
  rw [rounds_succ]
  go_wp2_with (go_at_call 172; refine (only_49 _).mono ?_; rintro e w' ⟨rfl, rfl⟩)
  rw [rounds_succ]
  go_wp2_with (go_at_call 172; refine (only_50 _).mono ?_; rintro e w' ⟨rfl, rfl⟩)
  refine wp_loop_rounds 1 ?_
  rw [rounds_succ]
  have hcv0 : (convert 112 9 (.slice (some ⟨w.heap.size, 0, none⟩) 1 1)).run Tryz.prog (w.alloc (.cells #[.int .u8 50] 5)) = .ok (.string ⟨#[50]⟩) (w.alloc (.cells #[.int .u8 50] 5)) := conv_bytes _ _ 1 _ [50] rfl (fun j hj => by match j, hj with | 0, _ => (first | (go_simp; done) | (go_simp; rfl)))
  go_wp2_with (go_at_call 172; refine (only_51 _).mono ?_; rintro e w' ⟨rfl, rfl⟩)
  clear hcv0
  rw [rounds_succ]
  go_wp2_with (go_at_call 172; refine (only_51 _).mono ?_; rintro e w' ⟨rfl, rfl⟩)
  rw [rounds_succ]
  go_wp2_with (go_at_call 172; refine (only_52 _).mono ?_; rintro e w' ⟨rfl, rfl⟩)
  rw [rounds_succ]
  go_wp2_with (go_at_call 172; refine (only_53 _).mono ?_; rintro e w' ⟨rfl, rfl⟩)
  rw [rounds_succ]
  go_wp2_with (go_at_call 172; refine (only_54 _).mono ?_; rintro e w' ⟨rfl, rfl⟩)
  rw [rounds_succ]
  go_wp2_with (go_at_call 172; refine (only_55 _).mono ?_; rintro e w' ⟨rfl, rfl⟩)
  rw [rounds_succ]
  go_wp2_with (go_at_call 172; refine (only_56 _).mono ?_; rintro e w' ⟨rfl, rfl⟩)
  rw [rounds_succ]
  go_wp2_with (go_at_call 172; refine (only_57 _).mono ?_; rintro e w' ⟨rfl, rfl⟩)
  refine wp_loop_rounds 1 ?_
  rw [rounds_succ]
  have hcv1 : (convert 112 9 (.slice (some ⟨w.heap.size + 1, 0, none⟩) 1 1)).run Tryz.prog ((w.alloc (.cells #[.int .u8 50] 5)).alloc (.cells #[.int .u8 57] 5)) = .ok (.string ⟨#[57]⟩) ((w.alloc (.cells #[.int .u8 50] 5)).alloc (.cells #[.int .u8 57] 5)) := conv_bytes _ _ 1 _ [57] rfl (fun j hj => by match j, hj with | 0, _ => (first | (go_simp; done) | (go_simp; rfl)))
  go_wp2_with fail
  clear hcv1
  rw [rounds_succ]
  go_wp2_with fail
  go_ret
  exact ⟨rfl, (by (try show Below _ _ _); repeat (with_reducible first | exact Below.refl _ _ | assumption | exact Hid.out (by assumption) | refine ext_alloc ?_ | refine ext_drewN ?_ | refine ext_drew ?_ | refine ext_setCell ?_ (Nat.le_refl _) | refine ext_setCell ?_ (Nat.le_succ _) | refine ext_trans ?_ (by assumption) | (refine ext_setCell ?_ (by simp)) | (refine ext_setCell ?_ (by simp at *; omega))))⟩
set_option maxRecDepth 100000 in
set_option maxHeartbeats 4000000 in
theorem digits_112 (w : World) : Calls Tryz.prog 195 #[.int .u16 112] w fun e w' => e = .returned (.string ⟨#[50, 45, 52]⟩) ∧ Below w.heap.size w w' := by
  go_enter Tryz.func195, Tryz.ntmps195
  go_wp2_with fail
  refine wp_loop_rounds 9 ?_
  rw [rounds_succ]
  go_wp2_with (go_at_call 172; refine (only_48 _).mono ?_; rintro e w' ⟨rfl, rfl⟩)
  rw [rounds_succ]
  go_wp2_with (go_at_call 172; refine (only_49 _).mono ?_; rintro e w' ⟨rfl, rfl⟩)
  rw [rounds_succ]
  go_wp2_with (go_at_call 172; refine (only_50 _).mono ?_; rintro e w' ⟨rfl, rfl⟩)
  refine wp_loop_rounds 3 ?_
  rw [rounds_succ]
  go_wp2_with (go_at_call 172; refine (only_51 _).mono ?_; rintro e w' ⟨rfl, rfl⟩)
  rw [rounds_succ]
  go_wp2_with (go_at_call 172; refine (only_52 _).mono ?_; rintro e w' ⟨rfl, rfl⟩)
  rw [rounds_succ]
  have hcv0 : (convert 112 9 (.slice (some ⟨w.heap.size, 0, none⟩) 3 3)).run Tryz.prog (w.alloc (.cells #[.int .u8 50, .int .u8 45, .int .u8 52] 5)) = .ok (.string ⟨#[50, 45, 52]⟩) (w.alloc (.cells #[.int .u8 50, .int .u8 45, .int .u8 52] 5)) := conv_bytes _ _ 3 _ [50, 45, 52] rfl (fun j hj => by match j, hj with | 0, _ => (first | (go_simp; done) | (go_simp; rfl)) | 1, _ => (first | (go_simp; done) | (go_simp; rfl)) | 2, _ => (first | (go_simp; done) | (go_simp; rfl)))
  go_wp2_with (go_at_call 172; refine (only_53 _).mono ?_; rintro e w' ⟨rfl, rfl⟩)
  clear hcv0
  rw [rounds_succ]
  go_wp2_with (go_at_call 172; refine (only_53 _).mono ?_; rintro e w' ⟨rfl, rfl⟩)
  rw [rounds_succ]
  go_wp2_with (go_at_call 172; refine (only_54 _).mono ?_; rintro e w' ⟨rfl, rfl⟩)
  rw [rounds_succ]
  go_wp2_with (go_at_call 172; refine (only_55 _).mono ?_; rintro e w' ⟨rfl, rfl⟩)
  rw [rounds_succ]
  go_wp2_with (go_at_call 172; refine (only_56 _).mono ?_; rintro e w' ⟨rfl, rfl⟩)
  rw [rounds_succ]
  go_wp2_with (go_at_call 172; refine (only_57 _).mono ?_; rintro e w' ⟨rfl, rfl⟩)
  rw [rounds_succ]
  go_wp2_with fail
  go_ret
  exact ⟨rfl, (by (try show Below _ _ _); repeat (with_reducible first | exact Below.refl _ _ | assumption | exact Hid.out (by assumption) | refine ext_alloc ?_ | refine ext_drewN ?_ | refine ext_drew ?_ | refine ext_setCell ?_ (Nat.le_refl _) | refine ext_setCell ?_ (Nat.le_succ _) | refine ext_trans ?_ (by assumption) | (refine ext_setCell ?_ (by simp)) | (refine ext_setCell ?_ (by simp at *; omega))))⟩
set_option maxRecDepth 100000 in
set_option maxHeartbeats 4000000 in
theorem digits_184 (w : World) : Calls Tryz.prog 195 #[.int .u16 184] w fun e w' => e = .returned (.string ⟨#[49, 45, 51, 53]⟩) ∧ Below w.heap.size w w' := by
  go_enter Tryz.func195, Tryz.ntmps195
  go_wp2_with fail
  refine wp_loop_rounds 9 ?_
  rw [rounds_succ]
  go_wp2_with (go_at_call 172; refine (only_48 _).mono ?_; rintro e w' ⟨rfl, rfl⟩)
  rw [rounds_succ]
  go_wp2_with (go_at_call 172; refine (only_49 _).mono ?_; rintro e w' ⟨rfl, rfl⟩)
  refine wp_loop_rounds 3 ?_
  rw [rounds_succ]
  go_wp2_with (go_at_call 172; refine (only_50 _).mono ?_; rintro e w' ⟨rfl, rfl⟩)
  rw [rounds_succ]
  go_wp2_with (go_at_call 172; refine (only_51 _).mono ?_; rintro e w' ⟨rfl, rfl⟩)
  rw [rounds_succ]
  have hcv0 : (convert 112 9 (.slice (some ⟨w.heap.size, 0, none⟩) 3 3)).run Tryz.prog (w.alloc (.cells #[.int .u8 49, .int .u8 45, .int .u8 51] 5)) = .ok (.string ⟨#[49, 45, 51]⟩) (w.alloc (.cells #[.int .u8 49, .int .u8 45, .int .u8 51] 5)) := conv_bytes _ _ 3 _ [49, 45, 51] rfl (fun j hj => by match j, hj with | 0, _ => (first | (go_simp; done) | (go_simp; rfl)) | 1, _ => (first | (go_simp; done) | (go_simp; rfl)) | 2, _ => (first | (go_simp; done) | (go_simp; rfl)))
  go_wp2_with (go_at_call 172; refine (only_52 _).mono ?_; rintro e w' ⟨rfl, rfl⟩)
  clear hcv0
  rw [rounds_succ]
  go_wp2_with (go_at_call 172; refine (only_52 _).mono ?_; rintro e w' ⟨rfl, rfl⟩)
  rw [rounds_succ]
  go_wp2_with (go_at_call 172; refine (only_53 _).mono ?_; rintro e w' ⟨rfl, rfl⟩)
  refine wp_loop_rounds 1 ?_
  rw [rounds_succ]
  have hcv1 : (convert 112 9 (.slice (some ⟨w.heap.size + 1, 0, none⟩) 1 1)).run Tryz.prog ((w.alloc (.cells #[.int .u8 49, .int .u8 45, .int .u8 51] 5)).alloc (.cells #[.int .u8 53] 5)) = .ok (.string ⟨#[53]⟩) ((w.alloc (.cells #[.int .u8 49, .int .u8 45, .int .u8 51] 5)).alloc (.cells #[.int .u8 53] 5)) := conv_bytes _ _ 1 _ [53] rfl (fun j hj => by match j, hj with | 0, _ => (first | (go_simp; done) | (go_simp; rfl)))
  go_wp2_with (go_at_call 172; refine (only_54 _).mono ?_; rintro e w' ⟨rfl, rfl⟩)
  clear hcv1
  rw [rounds_succ]
  go_wp2_with (go_at_call 172; refine (only_54 _).mono ?_; rintro e w' ⟨rfl, rfl⟩)
  rw [rounds_succ]
  go_wp2_with (go_at_call 172; refine (only_55 _).mono ?_; rintro e w' ⟨rfl, rfl⟩)
  rw [rounds_succ]
  go_wp2_with (go_at_call 172; refine (only_56 _).mono ?_; rintro e w' ⟨rfl, rfl⟩)
  rw [rounds_succ]
  go_wp2_with (go_at_call 172; refine (only_57 _).mono ?_; rintro e w' ⟨rfl, rfl⟩)
  rw [rounds_succ]
  go_wp2_with fail
  go_ret
  exact ⟨rfl, (by (try show Below _ _ _); repeat (with_reducible first | exact Below.refl _ _ | assumption | exact Hid.out (by assumption) | refine ext_alloc ?_ | refine ext_drewN ?_ | refine ext_drew ?_ | refine ext_setCell ?_ (Nat.le_refl _) | refine ext_setCell ?_ (Nat.le_succ _) | refine ext_trans ?_ (by assumption) | (refine ext_setCell ?_ (by simp)) | (refine ext_setCell ?_ (by simp at *; omega))))⟩
end Go.Proofs.YtkdadbpajhdelaaGreatDoor

set_option linter.unusedVariables false
set_option linter.unusedSimpArgs false
namespace Go.Proofs.YtkdadbpajhdelaaGreatDoor
open Go.RowKit

/-- A rule of a plan. -/
structure DRule where
  els : Els
  strip : Nat
  pre : List UInt8
  to_ : Nat
  name : List UInt8
  hours : List UInt8
def noDRule : DRule := ⟨⟨[], 12⟩, 0, [], 0, [], []⟩
def DRule.cells (r : DRule) : List Value := [.string ⟨r.els.str.toArray⟩, .int .i64 r.strip, .string ⟨r.pre.toArray⟩, .int .i64 r.to_, .string ⟨r.name.toArray⟩, .string ⟨r.hours.toArray⟩]
/-- A right rule, as the stream hands them out. -/
structure DRuleOk (r : DRule) : Prop where
  els : ElsOk r.els
  strip : r.strip ≤ 2
  pre : r.pre ∈ ([[], [48], [42, 49]] : List (List UInt8))
  to_ : 1 ≤ r.to_ ∧ r.to_ ≤ 6
  named : 3 ≤ r.to_ → r.to_ ≤ 5 → r.name ∈ ([[109, 97, 105, 110], [104, 101, 108, 112]] : List (List UInt8))
  bare : (r.to_ < 3 ∨ 5 < r.to_) → r.name = []
  hours : r.hours ∈ ([[], [104, 97], [104, 98]] : List (List UInt8))
/-- Does a pattern match some string that begins with one? -/
def someB (p : Pat) (d : List Nat) : Bool := (List.range d.length).all (fun i => (p.at_ i).testBit (d.getD i 0)) && (decide (p.at_ d.length ≠ 0) || p.fin d.length)
def longerB (r : DRule) (d : List Nat) : Bool := someB r.els.pat d && (decide (d.length < 30) && (decide (r.els.pat.tail ≠ 0) || decide (d.length < r.els.pat.sets.length)))
def hitB (op : DRule → Bool) (d : List Nat) (r : DRule) : Bool := matchB r.els.pat d && op r
def betterB (rs : List DRule) (i : Nat) (b : Option Nat) : Bool := match b with
  | none => true
  | some b => decide (befI (rs.getD i noDRule).els (rs.getD b noDRule).els < 0)
/-- The rule that decides, of the first ones. -/
def decTo (rs : List DRule) (op : DRule → Bool) (d : List Nat) : Nat → Option Nat
  | 0 => none
  | i + 1 => if (hitB op d (rs.getD i noDRule) && betterB rs i (decTo rs op d i)) = true then some i else decTo rs op d i
def decIn (rs : List DRule) (op : DRule → Bool) (d : List Nat) : Option Nat := decTo rs op d rs.length
theorem decTo_some {rs : List DRule} {op : DRule → Bool} {d : List Nat} : ∀ {n k : Nat}, decTo rs op d n = some k → k < n ∧ hitB op d (rs.getD k noDRule) = true
  | n + 1, k, h => by
    unfold decTo at h
    split at h
    · rename_i h1
      injection h with h
      subst h
      rw [Bool.and_eq_true] at h1
      exact ⟨by omega, h1.1⟩
    · obtain ⟨h2, h3⟩ := decTo_some h
      exact ⟨by omega, h3⟩
theorem decTo_none {rs : List DRule} {op : DRule → Bool} {d : List Nat} : ∀ {n : Nat}, decTo rs op d n = none → ∀ i, i < n → hitB op d (rs.getD i noDRule) = false
  | n + 1, h, i, hi => by
    unfold decTo at h
    split at h
    · cases h
    · rename_i h1
      by_cases hin : i = n
      · subst hin
        rw [h] at h1
        simpa [betterB] using h1
      · exact decTo_none h i (by omega)
theorem decIn_isSome {rs : List DRule} {op : DRule → Bool} {d : List Nat} : (decIn rs op d).isSome = true ↔ ∃ i, i < rs.length ∧ hitB op d (rs.getD i noDRule) = true := by
  unfold decIn
  constructor
  · intro h
    obtain ⟨k, hk⟩ := Option.isSome_iff_exists.1 h
    exact ⟨k, decTo_some hk⟩
  · rintro ⟨i, hi, hh⟩
    cases h9 : decTo rs op d rs.length with
    | none => rw [decTo_none h9 i hi] at hh; cases hh
    | some k => rfl
/-- What a longer string that is decided says of the shorter one. -/
theorem longer_of {op : DRule → Bool} {r : DRule} {d x : List Nat} (hx : 1 ≤ x.length) (hl : d.length < 30) (h : hitB op (d ++ x) r = true) : (op r && longerB r d) = true := by
  unfold hitB at h
  rw [Bool.and_eq_true] at h
  obtain ⟨h1, h2⟩ := h
  rw [matchB_iff] at h1
  obtain ⟨h3, h4⟩ := h1
  have hlen : (d ++ x).length = d.length + x.length := List.length_append
  have hb : ∀ i, i < d.length → (r.els.pat.at_ i).testBit (d.getD i 0) = true := fun i hi => by
    have := h3 i (by omega)
    rw [List.getD_eq_getElem?_getD, List.getElem?_append_left hi, ← List.getD_eq_getElem?_getD] at this
    exact this
  have hn : r.els.pat.at_ d.length ≠ 0 := fun e => by
    have := h3 d.length (by omega)
    rw [e] at this
    simp at this
  rw [h2, Bool.true_and]
  unfold longerB someB
  rw [decide_eq_true hl, decide_eq_true hn]
  have ha : ((List.range d.length).all fun i => (r.els.pat.at_ i).testBit (d.getD i 0)) = true := by
    rw [List.all_eq_true]
    intro i hi
    exact hb i (by simpa using hi)
  rw [ha]
  by_cases ht : r.els.pat.tail = 0
  · unfold Pat.fin at h4
    by_cases hs : (d ++ x).length < r.els.pat.sets.length
    · rw [if_pos hs] at h4; cases h4
    · rw [if_neg hs, ht, if_neg (by decide), if_neg (by decide)] at h4
      have h5 : (d ++ x).length = r.els.pat.sets.length := of_decide_eq_true h4
      rw [decide_eq_true (show d.length < r.els.pat.sets.length by omega)]
      simp
  · rw [decide_eq_true ht]
    rfl
/-- A context of a plan, with its place in memory. -/
structure DCtx where
  key : List UInt8
  ra : Option Addr
  rn : Nat
  rc : Nat
  rules : List DRule
  ia : Option Addr
  inn : Nat
  ic : Nat
  incs : List Nat
def noDCtx : DCtx := ⟨[], none, 0, 0, [], none, 0, 0, []⟩
def DCtx.cells (c : DCtx) : List Value := [.string ⟨c.key.toArray⟩, .slice c.ra c.rn c.rc, .slice c.ia c.inn c.ic]
/-- The keys of contexts: ca, cb, cc. -/
def ctxKey (i : Nat) : List UInt8 := [99, 97 + i.toUInt8]
/-- The contexts that are asked for one, behind those that are there. -/
def ordIn (adj : Nat → List Nat) : Nat → Nat → List Nat → List Nat
  | 0, _, out => out
  | f + 1, i, out => if i ∈ out then out else (adj i).foldl (fun o j => ordIn adj f j o) (out ++ [i])
/-- Where it is decided. -/
def decAll (cs : List DCtx) (op : DRule → Bool) (d : List Nat) : List Nat → Option (Nat × Nat)
  | [] => none
  | k :: l => match decIn (cs.getD k noDCtx).rules op d with
    | some i => some (k, i)
    | none => decAll cs op d l
theorem decAll_isSome {cs : List DCtx} {op : DRule → Bool} {d : List Nat} : ∀ {l : List Nat}, (decAll cs op d l).isSome = l.any fun k => (decIn (cs.getD k noDCtx).rules op d).isSome
  | [] => rfl
  | k :: l => by
    rw [List.any_cons]
    unfold decAll
    split
    · rename_i i h; rw [h]; rfl
    · rename_i h; rw [h, decAll_isSome]; rfl
/-- What is dialled then. -/
def dialV (r : DRule) (d : List Nat) : List UInt8 := r.pre ++ (d.map signN).drop (min r.strip d.length)
def hitErr (r : DRule) (d : List Nat) : Int := if 30 < (dialV r d).length then 2 else if dialV r d = [] ∧ (r.to_ = 1 ∨ r.to_ = 2) then 3 else 0
def decErr (cs : List DCtx) (op : DRule → Bool) (d : List Nat) (l : List Nat) : Int := match decAll cs op d l with
  | none => 8
  | some (k, i) => hitErr ((cs.getD k noDCtx).rules.getD i noDRule) d
theorem decErr_iff {cs : List DCtx} {op : DRule → Bool} {d : List Nat} {l : List Nat} : decErr cs op d l ≠ 8 ↔ (l.any fun k => (decIn (cs.getD k noDCtx).rules op d).isSome) = true := by
  rw [← decAll_isSome]
  unfold decErr
  split
  · rename_i h; rw [h]; simp
  · rename_i k i h
    rw [h]
    unfold hitErr
    split
    · simp
    · split <;> simp
def moreB (cs : List DCtx) (op : DRule → Bool) (d : List Nat) (l : List Nat) : Bool := l.any fun k => (cs.getD k noDCtx).rules.any fun r => op r && longerB r d
theorem more_of {cs : List DCtx} {op : DRule → Bool} {d x : List Nat} {l : List Nat} (hx : 1 ≤ x.length) (hl : d.length < 30) (h : decErr cs op (d ++ x) l ≠ 8) : moreB cs op d l = true := by
  rw [decErr_iff, List.any_eq_true] at h
  obtain ⟨k, hk, h⟩ := h
  obtain ⟨i, hi, hh⟩ := decIn_isSome.1 h
  unfold moreB
  rw [List.any_eq_true]
  refine ⟨k, hk, ?_⟩
  rw [List.any_eq_true]
  refine ⟨(cs.getD k noDCtx).rules.getD i noDRule, ?_, longer_of hx hl hh⟩
  generalize (cs.getD k noDCtx).rules = rs at hi ⊢
  rw [List.getD_eq_getElem?_getD, List.getElem?_eq_getElem hi]
  exact List.getElem_mem hi
end Go.Proofs.YtkdadbpajhdelaaGreatDoor

namespace Go.Proofs.YtkdadbpajhdelaaGreatDoor

theorem less_nil (a : List UInt8) : Op.bytesLess a [] = false := by cases a <;> rfl
theorem less_nil_cons (b : UInt8) (l : List UInt8) : Op.bytesLess [] (b :: l) = true := rfl
theorem less_cons (a b : UInt8) (x y : List UInt8) : Op.bytesLess (a :: x) (b :: y) = (decide (a < b) || (a == b && Op.bytesLess x y)) := rfl

theorem cmp_neg : ∀ (a b : List UInt8), (Lib.compareBytes a b < 0) ↔ Op.bytesLess a b = true
  | [], [] => by simp [Lib.compareBytes, less_nil]
  | [], b :: l => by simp [Lib.compareBytes, less_nil_cons]
  | a :: l, [] => by simp [Lib.compareBytes, less_nil]
  | a :: x, b :: y => by
    have ih := cmp_neg x y
    rw [less_cons, Lib.compareBytes]
    by_cases h1 : a < b
    · simp [h1]
    · by_cases h2 : b < a
      · have : a ≠ b := fun e => by subst e; exact h1 h2
        simp [h1, h2, this]
      · have : a = b := UInt8.le_antisymm (UInt8.not_lt.1 h2) (UInt8.not_lt.1 h1)
        subst this
        simp [ih, UInt8.lt_irrefl]

theorem cmp_zero : ∀ (a b : List UInt8), (Lib.compareBytes a b = 0) ↔ a = b
  | [], [] => by simp [Lib.compareBytes]
  | [], b :: l => by simp [Lib.compareBytes]
  | a :: l, [] => by simp [Lib.compareBytes]
  | a :: x, b :: y => by
    have ih := cmp_zero x y
    rw [Lib.compareBytes]
    by_cases h1 : a < b
    · have : a ≠ b := fun e => by subst e; exact UInt8.lt_irrefl _ h1
      simp [h1, this]
    · by_cases h2 : b < a
      · have : a ≠ b := fun e => by subst e; exact h1 h2
        simp [h1, h2, this]
      · have : a = b := UInt8.le_antisymm (UInt8.not_lt.1 h2) (UInt8.not_lt.1 h1)
        subst this
        simp [ih, UInt8.lt_irrefl]

theorem less_irrefl : ∀ a : List UInt8, Op.bytesLess a a = false
  | [] => rfl
  | a :: x => by rw [less_cons, less_irrefl x]; simp [UInt8.lt_irrefl]

theorem less_trans : ∀ {a b c : List UInt8}, Op.bytesLess a b = true → Op.bytesLess b c = true → Op.bytesLess a c = true
  | _, [], _, h, _ => by rw [less_nil] at h; cases h
  | _, _ :: _, [], _, h => by rw [less_nil] at h; cases h
  | [], _ :: _, _ :: _, _, _ => rfl
  | a :: x, b :: y, c :: z, h, k => by
    rw [less_cons] at h k ⊢
    simp only [Bool.or_eq_true, decide_eq_true_eq, Bool.and_eq_true, beq_iff_eq] at h k ⊢
    rcases h with h | ⟨rfl, h⟩
    · rcases k with k | ⟨rfl, k⟩
      · exact Or.inl (UInt8.lt_trans h k)
      · exact Or.inl h
    · rcases k with k | ⟨rfl, k⟩
      · exact Or.inl k
      · exact Or.inr ⟨rfl, less_trans h k⟩

theorem less_total : ∀ (a b : List UInt8), Op.bytesLess a b = false → a ≠ b → Op.bytesLess b a = true
  | [], [], _, h => absurd rfl h
  | [], _ :: _, h, _ => by cases h
  | _ :: _, [], _, _ => rfl
  | a :: x, b :: y, h, k => by
    rw [less_cons] at h ⊢
    simp only [Bool.or_eq_false_iff, decide_eq_false_iff_not, Bool.and_eq_false_iff, beq_eq_false_iff_ne] at h
    simp only [Bool.or_eq_true, decide_eq_true_eq, Bool.and_eq_true, beq_iff_eq]
    obtain ⟨h1, h2⟩ := h
    by_cases e : a = b
    · subst e
      rcases h2 with h2 | h2
      · exact absurd rfl h2
      · exact Or.inr ⟨rfl, less_total x y h2 (fun e => k (by rw [e]))⟩
    · refine Or.inl (UInt8.lt_of_le_of_ne (UInt8.not_lt.1 h1) (Ne.symm e))

/-- Go's '<=' of strings. -/
def leS (a b : List UInt8) : Bool := Op.bytesLess a b || a == b
theorem leS_false {a b : List UInt8} (h : leS a b = false) : Op.bytesLess a b = false ∧ (a == b) = false := by simpa [leS] using h
theorem less_of_leS {a b : List UInt8} (h : leS a b = false) : Op.bytesLess b a = true := by
  obtain ⟨h1, h2⟩ := leS_false h
  exact less_total a b h1 (by simpa using h2)
end Go.Proofs.YtkdadbpajhdelaaGreatDoor

set_option linter.unusedVariables false
set_option linter.unusedSimpArgs false
namespace Go.Proofs.YtkdadbpajhdelaaGreatDoor
open Go.RowKit

structure Area where
  pre : List UInt8
  low : Int
  high : Int
def noArea : Area := ⟨[], 0, 0⟩
def Area.cells (x : Area) : List Value := [.string ⟨x.pre.toArray⟩, .int .i64 x.low, .int .i64 x.high]
structure Ctry where
  code : List UInt8
  abroad : List UInt8
  trunk : List UInt8
  aa : Option Addr
  an : Nat
  ac : Nat
  areas : List Area
def noCtry : Ctry := ⟨[], [], [], none, 0, 0, []⟩
def Ctry.cells (x : Ctry) : List Value := [.string ⟨x.code.toArray⟩, .string ⟨x.abroad.toArray⟩, .string ⟨x.trunk.toArray⟩, .slice x.aa x.an x.ac]
def Ctry.val (x : Ctry) : Value := .agg x.cells.toArray

/-- The first error of some. -/
def firstErr (f : Nat → Int) (n : Nat) : Int := match (List.range n).find? (fun i => f i != 0) with | some i => f i | none => 0
theorem first_none {f : Nat → Int} {n : Nat} (h : ∀ j, j < n → f j = 0) : firstErr f n = 0 := by
  unfold firstErr
  rw [List.find?_eq_none.2 (fun i hi => by simp [h i (by simpa using hi)])]
theorem first_some {f : Nat → Int} {n k : Nat} (h : ∀ j, j < k → f j = 0) (hk : k < n) (hn : f k ≠ 0) : firstErr f n = f k := by
  have hs : ((List.range n).find? (fun i => f i != 0)).isSome = true := by
    rw [List.find?_isSome]; exact ⟨k, by simpa using hk, by simpa using hn⟩
  obtain ⟨x, hx⟩ := Option.isSome_iff_exists.1 hs
  have e : firstErr f n = f x := by unfold firstErr; rw [hx]
  have hp := List.find?_some hx
  simp at hp
  have hge : k ≤ x := by
    rcases Nat.lt_or_ge x k with h1 | h1
    · exact absurd (h x h1) hp
    · exact h1
  rw [List.find?_eq_some_iff_getElem] at hx
  obtain ⟨_, i, hi, he, hj⟩ := hx
  simp at he
  subst he
  rcases Nat.lt_or_eq_of_le hge with h1 | h1
  · have := hj k h1
    simp at this
    exact absurd this hn
  · rw [e, ← h1]

def prevArea (c : Ctry) (i : Nat) : Area := c.areas.getD (i - 1) noArea
def areaBad (code pre : List UInt8) (low high : Int) : Bool := decide (low ≤ pre.length) || (decide (high < low) || (decide (15 - (code.length : Int) < high) || decide (low < 4 - (code.length : Int))))
def areaErrOf (c : Ctry) (i : Nat) (a p : Area) : Int :=
  if digitsB a.pre 1 8 = false then 3
  else if (decide (0 < i) && leS a.pre p.pre) = true then 7
  else if ((decide (0 < i) && Lib.hasPrefix a.pre p.pre) || (Lib.hasPrefix (c.trunk ++ a.pre) c.abroad || Lib.hasPrefix c.abroad (c.trunk ++ a.pre))) = true then 13
  else if areaBad c.code a.pre a.low a.high = true then 1 else 0
def areaErr (c : Ctry) (i : Nat) : Int := areaErrOf c i (c.areas.getD i noArea) (prevArea c i)
def ctryErrOf (l : List Ctry) (i : Nat) (c p : Ctry) : Int :=
  if digitsB c.code 1 3 = false then 3 else if (c.code.headD 0 == 48) = true then 3
  else if (decide (0 < i) && leS c.code p.code) = true then 7
  else if ((l.take i).any fun d => Lib.hasPrefix c.code d.code) = true then 13
  else if digitsB c.abroad 1 4 = false then 3 else if digitsB c.trunk 0 2 = false then 3 else if Lib.hasPrefix c.trunk c.abroad = true then 3
  else if 300 < c.an then 2 else 0
def ctryErr (l : List Ctry) (i : Nat) : Int := ctryErrOf l i (l.getD i noCtry) (l.getD (i - 1) noCtry)
def partErr (l : List Ctry) (i : Nat) : Int := if ctryErr l i ≠ 0 then ctryErr l i else firstErr (areaErr (l.getD i noCtry)) (l.getD i noCtry).areas.length
def planErr (l : List Ctry) : Int := if 100 < l.length then 2 else firstErr (partErr l) l.length

/-! ### In memory -/
structure AreaRow (w : World) (a : Option Addr) (n : Nat) (l : List Area) : Prop where
  len : n = l.length
  row : n = 0 ∨ ∃ b off, a = some ⟨b, off, none⟩ ∧ b < w.heap.size ∧ ∀ i, i < n → ∀ j, j < 3 → w.cell? ⟨b, off + i * 3 + j, none⟩ = (l.getD i noArea).cells[j]?
structure AreaFine (x : Area) : Prop where
  pre : x.pre.length ≤ 100
  l0 : -4000000000000 ≤ x.low
  l1 : x.low ≤ 4000000000000
  h0 : -4000000000000 ≤ x.high
  h1 : x.high ≤ 4000000000000
structure CtryFine (w : World) (x : Ctry) : Prop where
  code : x.code.length ≤ 100
  abroad : x.abroad.length ≤ 100
  trunk : x.trunk.length ≤ 100
  many : x.an ≤ 1000
  row : AreaRow w x.aa x.an x.areas
  each : ∀ i, i < x.areas.length → AreaFine (x.areas.getD i noArea)
structure CtryRow (w : World) (a : Option Addr) (n : Nat) (l : List Ctry) : Prop where
  len : n = l.length
  few : n ≤ 1000
  row : n = 0 ∨ ∃ b off, a = some ⟨b, off, none⟩ ∧ b < w.heap.size ∧ ∀ i, i < n → ∀ j, j < 4 → w.cell? ⟨b, off + i * 4 + j, none⟩ = (l.getD i noCtry).cells[j]?
  each : ∀ i, i < l.length → CtryFine w (l.getD i noCtry)
theorem AreaRow.below {w w' : World} {a : Option Addr} {n : Nat} {l : List Area} (h : AreaRow w a n l) (hb : Below w.heap.size w w') : AreaRow w' a n l := by
  refine ⟨h.len, h.row.imp id ?_⟩
  rintro ⟨b, off, ha, hl, hc⟩
  exact ⟨b, off, ha, Nat.lt_of_lt_of_le hl hb.size, fun i hi j hj => (hb.cell (p := ⟨b, off + i * 3 + j, none⟩) hl).trans (hc i hi j hj)⟩
theorem CtryFine.below {w w' : World} {x : Ctry} (h : CtryFine w x) (hb : Below w.heap.size w w') : CtryFine w' x := ⟨h.code, h.abroad, h.trunk, h.many, h.row.below hb, h.each⟩
theorem CtryRow.below {w w' : World} {a : Option Addr} {n : Nat} {l : List Ctry} (h : CtryRow w a n l) (hb : Below w.heap.size w w') : CtryRow w' a n l := by
  refine ⟨h.len, h.few, h.row.imp id ?_, fun i hi => (h.each i hi).below hb⟩
  rintro ⟨b, off, ha, hl, hc⟩
  exact ⟨b, off, ha, Nat.lt_of_lt_of_le hl hb.size, fun i hi j hj => (hb.cell (p := ⟨b, off + i * 4 + j, none⟩) hl).trans (hc i hi j hj)⟩
theorem area_cells {w : World} {b o : Nat} {x : Area} (h : ∀ j, j < 3 → w.cell? ⟨b, o + j, none⟩ = x.cells[j]?) : w.cell? ⟨b, o, none⟩ = some (.string ⟨x.pre.toArray⟩) ∧ w.cell? ⟨b, o + 1, none⟩ = some (.int .i64 x.low) ∧ w.cell? ⟨b, o + 2, none⟩ = some (.int .i64 x.high) :=
  ⟨h 0 (by omega), h 1 (by omega), h 2 (by omega)⟩
theorem ctry_cells {w : World} {b o : Nat} {x : Ctry} (h : ∀ j, j < 4 → w.cell? ⟨b, o + j, none⟩ = x.cells[j]?) : w.cell? ⟨b, o, none⟩ = some (.string ⟨x.code.toArray⟩) ∧ w.cell? ⟨b, o + 1, none⟩ = some (.string ⟨x.abroad.toArray⟩) ∧ w.cell? ⟨b, o + 2, none⟩ = some (.string ⟨x.trunk.toArray⟩) ∧ w.cell? ⟨b, o + 3, none⟩ = some (.slice x.aa x.an x.ac) :=
  ⟨h 0 (by omega), h 1 (by omega), h 2 (by omega), h 3 (by omega)⟩
end Go.Proofs.YtkdadbpajhdelaaGreatDoor
