/- What is proved here: lemmas and contracts for the statement, put together out of smaller texts (Base, Number, Strs, PlanMath, RegionLast, RegionSeq, PlanCheck, Stream, Picks, PlanBuild). No condition beyond those stated. -/
import Derived.Test.YthajppcmmmkfcaaGreatDoorProg
import Derived.WalkKit
import Derived.WalkLawsBesides
import Derived.WalkSpells
import Derived.Deep.QuietTactic
import Derived.BigQuiet
import Derived.RegionTactic
import Derived.Lib.Hide
import Derived.Test.YthajppcmmmkfcaaGreatDoorShelf
import Derived.Lib.Bytealg
import GoSem.Op.String
import Derived.Deep.RegionHeld3
import Derived.Test.YthajppcmmmkfcaaGreatDoorShelfNum
import Derived.BigRegion
import Derived.IntWalk
import Derived.Deep.DeepCutAuto
namespace Go.Proofs.YthajppcmmmkfcaaGreatDoor
open Go.RowKit

/-- The blocks of w stay, but for block S; nothing outside has turned. -/
structure Keeps (S : Nat) (w w' : World) : Prop where
  os : w'.os = w.os
  tape : w'.tape = w.tape
  output : w'.output = w.output
  size : w.heap.size ≤ w'.heap.size
  block : ∀ k, k < w.heap.size → k ≠ S → w'.heap[k]? = w.heap[k]?

theorem Keeps.ext {S : Nat} {a w w' : World} (h : Keeps S a w) (b : Below w.heap.size w w') : Keeps S a w' :=
  ⟨b.os.trans h.os, b.tape.trans h.tape, b.output.trans h.output, Nat.le_trans h.size b.size, fun k hk hn => (b.block k (Nat.lt_of_lt_of_le hk h.size)).trans (h.block k hk hn)⟩
theorem Keeps.refl (S : Nat) (w : World) : Keeps S w w := ⟨rfl, rfl, rfl, Nat.le_refl _, fun _ _ _ => rfl⟩
theorem Keeps.trans {S : Nat} {a b c : World} (h : Keeps S a b) (k : Keeps S b c) : Keeps S a c :=
  ⟨k.os.trans h.os, k.tape.trans h.tape, k.output.trans h.output, Nat.le_trans h.size k.size, fun i hi hn => (k.block i (Nat.lt_of_lt_of_le hi h.size) hn).trans (h.block i hi hn)⟩
theorem Keeps.of_below {S : Nat} {w w' : World} (h : Below w.heap.size w w') : Keeps S w w' := ⟨h.os, h.tape, h.output, h.size, fun k hk _ => h.block k hk⟩
theorem Keeps.below {S B : Nat} {w w' : World} (h : Keeps S w w') (hB : B ≤ w.heap.size) (hS : B ≤ S) : Below B w w' :=
  ⟨h.os, h.tape, h.output, h.size, fun k hk => h.block k (by omega) (by omega)⟩
theorem Keeps.cell {S : Nat} {w w' : World} (h : Keeps S w w') {p : Addr} (hp : p.block < w.heap.size) (hn : p.block ≠ S) : w'.cell? p = w.cell? p := World.cell?_of_block (w := w) (h.block p.block hp hn)
theorem Keeps.frozen {S : Nat} {w w' : World} (h : Keeps S w w') {p : Addr} (hp : p.block < w.heap.size) (hn : p.block ≠ S) : w'.frozen? p = w.frozen? p := World.frozen?_of_block (w := w) (h.block p.block hp hn)
theorem Keeps.drew {S : Nat} {a w : World} (h : Keeps S a w) : Keeps S a w.drew := ⟨h.os, h.tape, h.output, h.size, h.block⟩
theorem Keeps.drewN {S : Nat} {a w : World} (h : Keeps S a w) (n : Nat) : Keeps S a (w.drewN n) := ⟨h.os, h.tape, h.output, h.size, h.block⟩
theorem Keeps.alloc {S : Nat} {a w : World} (h : Keeps S a w) (o : Obj) : Keeps S a (w.alloc o) :=
  h.trans ⟨rfl, rfl, rfl, by simp, fun k hk _ => Below.heap_alloc _ _ _ hk⟩
theorem Keeps.setCell {S : Nat} {a w : World} (h : Keeps S a w) {p : Addr} (hp : p.block = S) (u : Value) : Keeps S a (w.setCell p u) :=
  h.trans ⟨rfl, rfl, rfl, by simp, fun k hk hn => Below.heap_setCell _ _ _ _ (by omega)⟩
theorem Keeps.setCell_new {S : Nat} {a w : World} (h : Keeps S a w) {p : Addr} (hp : a.heap.size ≤ p.block) (u : Value) : Keeps S a (w.setCell p u) :=
  ⟨h.os, h.tape, h.output, by simpa using h.size, fun k hk hn => (Below.heap_setCell _ _ _ _ (by omega)).trans (h.block k hk hn)⟩

/-- A slice of integers: empty, or a row of cells in a block below S. -/
def IntRow (w : World) (S : Nat) (a : Option Addr) (len cap : Nat) (zs : List Int) : Prop :=
  len = 0 ∨
  ∃ b off, a = some ⟨b, off, none⟩ ∧ b < S ∧ len ≤ cap ∧ cap ≤ maxLen ∧ len ≤ zs.length ∧ (∀ i, i < len → w.cell? ⟨b, off + i, none⟩ = some (.int .i64 (zs.getD i 0)))

theorem IntRow.kept {w w' : World} {S : Nat} {a : Option Addr} {len cap : Nat} {zs : List Int} (h : IntRow w S a len cap zs) (k : Below S w w') : IntRow w' S a len cap zs := by
  rcases h with h | ⟨b, off, ha, hb, h1, h2, h3, hc⟩
  · exact Or.inl h
  · exact Or.inr ⟨b, off, ha, hb, h1, h2, h3, fun i hi => (k.cell (p := ⟨b, off + i, none⟩) hb).trans (hc i hi)⟩

/-- Block S is a stream that has handed out at most k numbers. -/
def StreamOk (w : World) (S k : Nat) : Prop :=
  ∃ (a : Option Addr) (len cap : Nat) (zs : List Int) (n : Nat), n ≤ k ∧ S < w.heap.size ∧ w.cell? ⟨S, 0, none⟩ = some (.slice a len cap) ∧ w.cell? ⟨S, 1, none⟩ = some (.int .i64 n) ∧ w.frozen? ⟨S, 1, none⟩ = false ∧ IntRow w S a len cap zs

theorem StreamOk.mono {w : World} {S k k' : Nat} (h : StreamOk w S k) (hk : k ≤ k') : StreamOk w S k' := by
  obtain ⟨a, len, cap, zs, n, hn, r⟩ := h
  exact ⟨a, len, cap, zs, n, by omega, r⟩
theorem StreamOk.lt {w : World} {S k : Nat} (h : StreamOk w S k) : S < w.heap.size := by
  obtain ⟨a, len, cap, zs, n, hn, r, _⟩ := h
  exact r
theorem StreamOk.upto {w w' : World} {S k : Nat} (h : StreamOk w S k) (b : Below (S + 1) w w') : StreamOk w' S k := by
  obtain ⟨a, len, cap, zs, n, hn, hs, h0, h1, hf, hr⟩ := h
  exact ⟨a, len, cap, zs, n, hn, Nat.lt_of_lt_of_le hs b.size, (b.cell (p := ⟨S, 0, none⟩) (Nat.lt_succ_self _)).trans h0, (b.cell (p := ⟨S, 1, none⟩) (Nat.lt_succ_self _)).trans h1, (b.frozen (p := ⟨S, 1, none⟩) (Nat.lt_succ_self _)).trans hf, hr.kept (b.mono (Nat.le_succ _))⟩
theorem StreamOk.below {w w' : World} {S k : Nat} (h : StreamOk w S k) (b : Below w.heap.size w w') : StreamOk w' S k := h.upto (b.mono h.lt)

/-- Below S, and S itself, through an append to a row of the call's own. -/
theorem upto_grown {S : Nat} {w w' : World} {o : Obj} {row : Option Nat} (hg : (w.alloc o).grownBy w' row) (hS : S ≤ w.heap.size) (hr : ∀ b, row = some b → S ≤ b) : Below S w w' :=
  ((Below.refl S w).alloc hS o).grown hg (by simp; omega) hr
theorem Keeps.grown {S : Nat} {a w w' : World} {o : Obj} {row : Option Nat} (h : Keeps S a w) (hg : (w.alloc o).grownBy w' row) (hr : ∀ b, row = some b → a.heap.size ≤ b) : Keeps S a w' :=
  ⟨hg.os.trans h.os, hg.tape.trans h.tape, hg.output.trans h.output, Nat.le_trans h.size (by have := hg.size; simp at this; omega), fun k hk hn => ((hg.block k (by simp; have := h.size; omega) (fun e => by have := hr k e.symm; omega)).trans (Below.heap_alloc _ _ _ (Nat.lt_of_lt_of_le hk h.size))).trans (h.block k hk hn)⟩

/-- What a call of the stream's comes to: a number from 0 to n - 1. -/
def NextPost (S k : Nat) (lo hi : Int) (w : World) (e : Ending) (w' : World) : Prop :=
  ∃ r : Int, e = .returned (.int .i64 r) ∧ lo ≤ r ∧ r ≤ hi ∧ StreamOk w' S k ∧ Keeps S w w'

theorem ext_trans {a b c : World} (h : Below a.heap.size a b) (k : Below b.heap.size b c) : Below a.heap.size a c := h.trans (k.mono h.size)
theorem ext_alloc {a w : World} {o : Obj} (h : Below a.heap.size a w) : Below a.heap.size a (w.alloc o) := h.alloc h.size o
theorem ext_drew {a w : World} (h : Below a.heap.size a w) : Below a.heap.size a w.drew := h.drew
theorem ext_drewN {a w : World} {n : Nat} (h : Below a.heap.size a w) : Below a.heap.size a (w.drewN n) := ⟨h.os, h.tape, h.output, h.size, h.block⟩
theorem ext_setCell {a w : World} {p : Addr} {u : Value} (h : Below a.heap.size a w) (hp : a.heap.size ≤ p.block) : Below a.heap.size a (w.setCell p u) := h.setCell hp u

theorem bcell {W w1 : World} (hb : Below W.heap.size W w1) : (∀ b o, b < W.heap.size → w1.cell? ⟨b, o, none⟩ = W.cell? ⟨b, o, none⟩) ∧ (∀ b o, b < W.heap.size → w1.frozen? ⟨b, o, none⟩ = W.frozen? ⟨b, o, none⟩) :=
  ⟨fun b o h => hb.cell (p := ⟨b, o, none⟩) h, fun b o h => hb.frozen (p := ⟨b, o, none⟩) h⟩

theorem below_of_grown_none {X w1 : World} (h : X.grownBy w1 none) : Below X.heap.size X w1 := (Below.refl _ X).grown h (Nat.le_refl _) (by intro k hk; cases hk)
theorem kept_of_grown {X w1 : World} {g : Nat} (h : X.grownBy w1 (some g)) : (∀ b o, b < X.heap.size → b ≠ g → w1.cell? ⟨b, o, none⟩ = X.cell? ⟨b, o, none⟩) ∧ (∀ b o, b < X.heap.size → b ≠ g → w1.frozen? ⟨b, o, none⟩ = X.frozen? ⟨b, o, none⟩) :=
  ⟨fun b o hb hn => World.cell?_of_block (w := X) (a := ⟨b, o, none⟩) (h.block b hb (by intro e; cases e; exact hn rfl)), fun b o hb hn => World.frozen?_of_block (w := X) (a := ⟨b, o, none⟩) (h.block b hb (by intro e; cases e; exact hn rfl))⟩

theorem _root_.Go.World.ownsRow.kept_below {w w' : World} {base : Nat} {e : TypeId} {size : Nat} {v : Value} {n : Nat} {xs : List Value} (h : w.ownsRow base e size v n xs) (hb : Below w.heap.size w w') : w'.ownsRow base e size v n xs :=
  h.kept (row := none) ⟨hb.os, hb.tape, hb.output, hb.size, fun k hk _ => hb.block k hk⟩ (by cases v.ownBlock <;> simp)

/-- A row of the call's own, from a block behind S on, stays where only S is written. -/
theorem own_keeps {S : Nat} {w w' : World} {base : Nat} {e : TypeId} {size : Nat} {v : Value} {n : Nat} {xs : List Value} (h : w.ownsRow base e size v n xs) (k : Keeps S w w') (hS : S < base) : w'.ownsRow base e size v n xs :=
  h.kept (row := some S) ⟨k.os, k.tape, k.output, k.size, fun b hb hn => k.block b hb (fun e => hn (by rw [e]))⟩ (by
    cases hv : v.ownBlock with
    | none => exact Or.inl rfl
    | some g => exact Or.inr (by have := (h.lt g hv).1; simp; omega))

theorem news_one {w : World} {ad : Addr} {x : Value} (h : w.cell? ad = some x) : ∀ (j : Nat) u, ([x] : List Value)[j]? = some u → w.cell? (ad.add j) = some u := by
  intro j u hj
  cases j with
  | zero => simp at hj; subst hj; simpa [Addr.add] using h
  | succ j => simp at hj

theorem ret_int {k : IntKind} {a b : Int} (h : a = b) : Ending.returned (.int k a) = .returned (.int k b) := by rw [h]

end Go.Proofs.YthajppcmmmkfcaaGreatDoor

namespace Go.Proofs.YthajppcmmmkfcaaGreatDoor
open Go.RowKit

/-- All bytes of l are in cs (what Trim leaves is empty). -/
def allIn (l cs : List UInt8) : Bool := (Lib.trimS l cs).isEmpty
def digitSet : List UInt8 := [48, 49, 50, 51, 52, 53, 54, 55, 56, 57]
def keySet : List UInt8 := [97, 98, 99, 100, 101, 102, 103, 104, 105, 106, 107, 108, 109, 110, 111, 112, 113, 114, 115, 116, 117, 118, 119, 120, 121, 122, 48, 49, 50, 51, 52, 53, 54, 55, 56, 57, 45, 95]

theorem trim_digits (s : ByteArray) (w : World) (hs : s.size ≤ 9223372036854775807) :
    Calls Tryz.prog 79 #[.string s, .string ⟨#[48, 49, 50, 51, 52, 53, 54, 55, 56, 57]⟩] w fun e w' => e = .returned (.string ⟨(Lib.trimS s.data.toList digitSet).toArray⟩) ∧ Below w.heap.size w w' :=
  Tryz.strings_Trim_set s ⟨#[48, 49, 50, 51, 52, 53, 54, 55, 56, 57]⟩ w hs (by decide) (Go.Proofs.ascii_of_all (by decide))

theorem isDigits_any (s : ByteArray) (w : World) (hs : s.size ≤ 9223372036854775807) :
    Calls Tryz.prog 90 #[.string s] w fun e w' => e = .returned (.bool (allIn s.data.toList digitSet)) ∧ Below w.heap.size w w' := by
  have hcon := trim_digits s w hs
  unfold allIn
  generalize Lib.trimS s.data.toList digitSet = r at hcon ⊢
  go_enter Tryz.func90, Tryz.ntmps90
  go_wp2_with (go_at_call 79; refine hcon.mono ?_; rintro e w' ⟨rfl, hB⟩)
  go_ret
  exact ⟨rfl, hB⟩

def digitsB (l : List UInt8) (lo hi : Int) : Bool := decide (lo ≤ l.length) && (decide ((l.length : Int) ≤ hi) && allIn l digitSet)

theorem digitsOf_any (s : ByteArray) (lo hi : Int) (w : World) (hs : s.size ≤ 9223372036854775807) :
    Calls Tryz.prog 49 #[.string s, .int .i64 lo, .int .i64 hi] w fun e w' => e = .returned (.bool (digitsB s.data.toList lo hi)) ∧ Below w.heap.size w w' := by
  have hcon := isDigits_any s w hs
  have hd : Hid (digitsB s.data.toList lo hi = (decide (lo ≤ s.size) && (decide ((s.size : Int) ≤ hi) && allIn s.data.toList digitSet))) := by rfl
  generalize allIn s.data.toList digitSet = r at hcon hd
  by_cases h1 : lo ≤ s.size
  · by_cases h2 : (s.size : Int) ≤ hi
    · go_enter Tryz.func49, Tryz.ntmps49
      go_wp2_with (go_at_call 90; refine hcon.mono ?_; rintro e w' ⟨rfl, hB⟩)
      go_ret
      exact ⟨by rw [hd.out]; simp [h1, h2], hB⟩
    · go_enter Tryz.func49, Tryz.ntmps49
      go_wp2_with (go_at_call 90; refine hcon.mono ?_; rintro e w' ⟨rfl, hB⟩)
      go_ret
      exact ⟨by rw [hd.out, decide_eq_false (show ¬ (s.size : Int) ≤ hi by omega)]; simp, Below.refl _ _⟩
  · go_enter Tryz.func49, Tryz.ntmps49
    go_wp2_with (go_at_call 90; refine hcon.mono ?_; rintro e w' ⟨rfl, hB⟩)
    go_ret
    exact ⟨by rw [hd.out, decide_eq_false (show ¬ lo ≤ (s.size : Int) by omega)]; simp, Below.refl _ _⟩

theorem byte_bne48 (c : UInt8) : ((c.toNat : Int) != 48) = (c != 48) := by
  rw [Bool.eq_iff_iff]; simp [← UInt8.toNat_inj]; omega

def isNumB (l : List UInt8) : Bool := Lib.hasPrefix l [43] && (digitsB (Lib.trimPrefix l [43]) 4 15 && ((Lib.trimPrefix l [43]).headD 0 != 48))

theorem isNumber_any (s : ByteArray) (w : World) (hs : s.size ≤ 9223372036854775807) :
    Calls Tryz.prog 99 #[.string s] w fun e w' => e = .returned (.bool (isNumB s.data.toList)) ∧ Below w.heap.size w w' := by
  have hcon := Tryz.strings_CutPrefix s ⟨#[43]⟩ w
  have hle : (Lib.trimPrefix s.data.toList [43]).length ≤ s.data.toList.length := by unfold Lib.trimPrefix; split <;> simp
  have hd : Hid (isNumB s.data.toList = (Lib.hasPrefix s.data.toList [43] && (digitsB (Lib.trimPrefix s.data.toList [43]) 4 15 && ((Lib.trimPrefix s.data.toList [43]).headD 0 != 48)))) := by rfl
  have hl : s.data.toList.length = s.size := rfl
  rw [hl] at hle
  clear hl
  generalize Lib.trimPrefix s.data.toList [43] = d at hcon hd hle
  generalize Lib.hasPrefix s.data.toList [43] = b at hcon hd
  have hcon2 := fun w => digitsOf_any ⟨d.toArray⟩ 4 15 w (by show d.length ≤ _; omega)
  have h4 : Hid (digitsB d 4 15 = true → 4 ≤ d.length) := by intro h; simp [digitsB] at h; omega
  generalize digitsB d 4 15 = b2 at hcon2 hd h4
  cases b with
  | false =>
    go_enter Tryz.func99, Tryz.ntmps99
    go_wp2_with (go_at_call 69; refine hcon.mono ?_; rintro e w' ⟨rfl, rfl⟩)
    go_ret
    exact ⟨by rw [hd.out]; rfl, Below.refl _ _⟩
  | true =>
    cases b2 with
    | false =>
      go_enter Tryz.func99, Tryz.ntmps99
      go_wp2_with (first | (go_at_call 69; refine hcon.mono ?_; rintro e w' ⟨rfl, rfl⟩) | (go_at_call 49; refine (hcon2 _).mono ?_; rintro e w' ⟨rfl, hB⟩))
      go_ret
      exact ⟨by rw [hd.out]; rfl, hB⟩
    | true =>
      have h44 := h4.out rfl
      obtain ⟨c, d', rfl⟩ : ∃ c d', d = c :: d' := by cases d with | nil => simp at h44 | cons c d' => exact ⟨c, d', rfl⟩
      go_enter Tryz.func99, Tryz.ntmps99
      go_wp2_with (first | (go_at_call 69; refine hcon.mono ?_; rintro e w' ⟨rfl, rfl⟩) | (go_at_call 49; refine (hcon2 _).mono ?_; rintro e w' ⟨rfl, hB⟩))
      go_ret
      exact ⟨by rw [hd.out]; simp only [Bool.true_and, List.headD_cons, ← byte_bne48]; rfl, hB⟩

end Go.Proofs.YthajppcmmmkfcaaGreatDoor

namespace Go.Proofs.YthajppcmmmkfcaaGreatDoor

theorem less_nil (a : List UInt8) : Op.bytesLess a [] = false := by cases a <;> rfl
theorem less_nil_cons (b : UInt8) (l : List UInt8) : Op.bytesLess [] (b :: l) = true := rfl
theorem less_cons (a b : UInt8) (x y : List UInt8) : Op.bytesLess (a :: x) (b :: y) = (decide (a < b) || (a == b && Op.bytesLess x y)) := rfl

theorem cmp_neg : ∀ (a b : List UInt8), (Lib.compareBytes a b < 0) ↔ Op.bytesLess a b = true
  | [], [] => by simp [Lib.compareBytes, less_nil]
  | [], b :: l => by simp [Lib.compareBytes, less_nil_cons]
  | a :: l, [] => by simp [Lib.compareBytes, less_nil]
  | a :: x, b :: y => by
    have ih := cmp_neg x y
    rw [less_cons, Lib.compareBytes]
    by_cases h1 : a < b
    · simp [h1]
    · by_cases h2 : b < a
      · have : a ≠ b := fun e => by subst e; exact h1 h2
        simp [h1, h2, this]
      · have : a = b := UInt8.le_antisymm (UInt8.not_lt.1 h2) (UInt8.not_lt.1 h1)
        subst this
        simp [ih, UInt8.lt_irrefl]

theorem cmp_zero : ∀ (a b : List UInt8), (Lib.compareBytes a b = 0) ↔ a = b
  | [], [] => by simp [Lib.compareBytes]
  | [], b :: l => by simp [Lib.compareBytes]
  | a :: l, [] => by simp [Lib.compareBytes]
  | a :: x, b :: y => by
    have ih := cmp_zero x y
    rw [Lib.compareBytes]
    by_cases h1 : a < b
    · have : a ≠ b := fun e => by subst e; exact UInt8.lt_irrefl _ h1
      simp [h1, this]
    · by_cases h2 : b < a
      · have : a ≠ b := fun e => by subst e; exact h1 h2
        simp [h1, h2, this]
      · have : a = b := UInt8.le_antisymm (UInt8.not_lt.1 h2) (UInt8.not_lt.1 h1)
        subst this
        simp [ih, UInt8.lt_irrefl]

theorem less_irrefl : ∀ a : List UInt8, Op.bytesLess a a = false
  | [] => rfl
  | a :: x => by rw [less_cons, less_irrefl x]; simp [UInt8.lt_irrefl]

theorem less_trans : ∀ {a b c : List UInt8}, Op.bytesLess a b = true → Op.bytesLess b c = true → Op.bytesLess a c = true
  | _, [], _, h, _ => by rw [less_nil] at h; cases h
  | _, _ :: _, [], _, h => by rw [less_nil] at h; cases h
  | [], _ :: _, _ :: _, _, _ => rfl
  | a :: x, b :: y, c :: z, h, k => by
    rw [less_cons] at h k ⊢
    simp only [Bool.or_eq_true, decide_eq_true_eq, Bool.and_eq_true, beq_iff_eq] at h k ⊢
    rcases h with h | ⟨rfl, h⟩
    · rcases k with k | ⟨rfl, k⟩
      · exact Or.inl (UInt8.lt_trans h k)
      · exact Or.inl h
    · rcases k with k | ⟨rfl, k⟩
      · exact Or.inl k
      · exact Or.inr ⟨rfl, less_trans h k⟩

theorem less_total : ∀ (a b : List UInt8), Op.bytesLess a b = false → a ≠ b → Op.bytesLess b a = true
  | [], [], _, h => absurd rfl h
  | [], _ :: _, h, _ => by cases h
  | _ :: _, [], _, _ => rfl
  | a :: x, b :: y, h, k => by
    rw [less_cons] at h ⊢
    simp only [Bool.or_eq_false_iff, decide_eq_false_iff_not, Bool.and_eq_false_iff, beq_eq_false_iff_ne] at h
    simp only [Bool.or_eq_true, decide_eq_true_eq, Bool.and_eq_true, beq_iff_eq]
    obtain ⟨h1, h2⟩ := h
    by_cases e : a = b
    · subst e
      rcases h2 with h2 | h2
      · exact absurd rfl h2
      · exact Or.inr ⟨rfl, less_total x y h2 (fun e => k (by rw [e]))⟩
    · refine Or.inl (UInt8.lt_of_le_of_ne (UInt8.not_lt.1 h1) (Ne.symm e))

/-- Go's '<=' of strings. -/
def leS (a b : List UInt8) : Bool := Op.bytesLess a b || a == b
theorem leS_false {a b : List UInt8} (h : leS a b = false) : Op.bytesLess a b = false ∧ (a == b) = false := by simpa [leS] using h
theorem less_of_leS {a b : List UInt8} (h : leS a b = false) : Op.bytesLess b a = true := by
  obtain ⟨h1, h2⟩ := leS_false h
  exact less_total a b h1 (by simpa using h2)
end Go.Proofs.YthajppcmmmkfcaaGreatDoor

set_option linter.unusedVariables false
set_option linter.unusedSimpArgs false
namespace Go.Proofs.YthajppcmmmkfcaaGreatDoor
open Go.RowKit

structure Area where
  pre : List UInt8
  low : Int
  high : Int
def noArea : Area := ⟨[], 0, 0⟩
def Area.cells (x : Area) : List Value := [.string ⟨x.pre.toArray⟩, .int .i64 x.low, .int .i64 x.high]
structure Ctry where
  code : List UInt8
  abroad : List UInt8
  trunk : List UInt8
  aa : Option Addr
  an : Nat
  ac : Nat
  areas : List Area
def noCtry : Ctry := ⟨[], [], [], none, 0, 0, []⟩
def Ctry.cells (x : Ctry) : List Value := [.string ⟨x.code.toArray⟩, .string ⟨x.abroad.toArray⟩, .string ⟨x.trunk.toArray⟩, .slice x.aa x.an x.ac]
def Ctry.val (x : Ctry) : Value := .agg x.cells.toArray

/-- The first error of some. -/
def firstErr (f : Nat → Int) (n : Nat) : Int := match (List.range n).find? (fun i => f i != 0) with | some i => f i | none => 0
theorem first_none {f : Nat → Int} {n : Nat} (h : ∀ j, j < n → f j = 0) : firstErr f n = 0 := by
  unfold firstErr
  rw [List.find?_eq_none.2 (fun i hi => by simp [h i (by simpa using hi)])]
theorem first_some {f : Nat → Int} {n k : Nat} (h : ∀ j, j < k → f j = 0) (hk : k < n) (hn : f k ≠ 0) : firstErr f n = f k := by
  have hs : ((List.range n).find? (fun i => f i != 0)).isSome = true := by
    rw [List.find?_isSome]; exact ⟨k, by simpa using hk, by simpa using hn⟩
  obtain ⟨x, hx⟩ := Option.isSome_iff_exists.1 hs
  have e : firstErr f n = f x := by unfold firstErr; rw [hx]
  have hp := List.find?_some hx
  simp at hp
  have hge : k ≤ x := by
    rcases Nat.lt_or_ge x k with h1 | h1
    · exact absurd (h x h1) hp
    · exact h1
  rw [List.find?_eq_some_iff_getElem] at hx
  obtain ⟨_, i, hi, he, hj⟩ := hx
  simp at he
  subst he
  rcases Nat.lt_or_eq_of_le hge with h1 | h1
  · have := hj k h1
    simp at this
    exact absurd this hn
  · rw [e, ← h1]

def prevArea (c : Ctry) (i : Nat) : Area := c.areas.getD (i - 1) noArea
def areaBad (code pre : List UInt8) (low high : Int) : Bool := decide (low ≤ pre.length) || (decide (high < low) || (decide (15 - (code.length : Int) < high) || decide (low < 4 - (code.length : Int))))
def areaErrOf (c : Ctry) (i : Nat) (a p : Area) : Int :=
  if digitsB a.pre 1 8 = false then 3
  else if (decide (0 < i) && leS a.pre p.pre) = true then 7
  else if ((decide (0 < i) && Lib.hasPrefix a.pre p.pre) || (Lib.hasPrefix (c.trunk ++ a.pre) c.abroad || Lib.hasPrefix c.abroad (c.trunk ++ a.pre))) = true then 13
  else if areaBad c.code a.pre a.low a.high = true then 1 else 0
def areaErr (c : Ctry) (i : Nat) : Int := areaErrOf c i (c.areas.getD i noArea) (prevArea c i)
def ctryErrOf (l : List Ctry) (i : Nat) (c p : Ctry) : Int :=
  if digitsB c.code 1 3 = false then 3 else if (c.code.headD 0 == 48) = true then 3
  else if (decide (0 < i) && leS c.code p.code) = true then 7
  else if ((l.take i).any fun d => Lib.hasPrefix c.code d.code) = true then 13
  else if digitsB c.abroad 1 4 = false then 3 else if digitsB c.trunk 0 2 = false then 3 else if Lib.hasPrefix c.trunk c.abroad = true then 3
  else if 300 < c.an then 2 else 0
def ctryErr (l : List Ctry) (i : Nat) : Int := ctryErrOf l i (l.getD i noCtry) (l.getD (i - 1) noCtry)
def partErr (l : List Ctry) (i : Nat) : Int := if ctryErr l i ≠ 0 then ctryErr l i else firstErr (areaErr (l.getD i noCtry)) (l.getD i noCtry).areas.length
def planErr (l : List Ctry) : Int := if 100 < l.length then 2 else firstErr (partErr l) l.length

/-! ### In memory -/
structure AreaRow (w : World) (a : Option Addr) (n : Nat) (l : List Area) : Prop where
  len : n = l.length
  row : n = 0 ∨ ∃ b off, a = some ⟨b, off, none⟩ ∧ b < w.heap.size ∧ ∀ i, i < n → ∀ j, j < 3 → w.cell? ⟨b, off + i * 3 + j, none⟩ = (l.getD i noArea).cells[j]?
structure AreaFine (x : Area) : Prop where
  pre : x.pre.length ≤ 100
  l0 : -4000000000000 ≤ x.low
  l1 : x.low ≤ 4000000000000
  h0 : -4000000000000 ≤ x.high
  h1 : x.high ≤ 4000000000000
structure CtryFine (w : World) (x : Ctry) : Prop where
  code : x.code.length ≤ 100
  abroad : x.abroad.length ≤ 100
  trunk : x.trunk.length ≤ 100
  many : x.an ≤ 1000
  row : AreaRow w x.aa x.an x.areas
  each : ∀ i, i < x.areas.length → AreaFine (x.areas.getD i noArea)
structure CtryRow (w : World) (a : Option Addr) (n : Nat) (l : List Ctry) : Prop where
  len : n = l.length
  few : n ≤ 1000
  row : n = 0 ∨ ∃ b off, a = some ⟨b, off, none⟩ ∧ b < w.heap.size ∧ ∀ i, i < n → ∀ j, j < 4 → w.cell? ⟨b, off + i * 4 + j, none⟩ = (l.getD i noCtry).cells[j]?
  each : ∀ i, i < l.length → CtryFine w (l.getD i noCtry)
theorem AreaRow.below {w w' : World} {a : Option Addr} {n : Nat} {l : List Area} (h : AreaRow w a n l) (hb : Below w.heap.size w w') : AreaRow w' a n l := by
  refine ⟨h.len, h.row.imp id ?_⟩
  rintro ⟨b, off, ha, hl, hc⟩
  exact ⟨b, off, ha, Nat.lt_of_lt_of_le hl hb.size, fun i hi j hj => (hb.cell (p := ⟨b, off + i * 3 + j, none⟩) hl).trans (hc i hi j hj)⟩
theorem CtryFine.below {w w' : World} {x : Ctry} (h : CtryFine w x) (hb : Below w.heap.size w w') : CtryFine w' x := ⟨h.code, h.abroad, h.trunk, h.many, h.row.below hb, h.each⟩
theorem CtryRow.below {w w' : World} {a : Option Addr} {n : Nat} {l : List Ctry} (h : CtryRow w a n l) (hb : Below w.heap.size w w') : CtryRow w' a n l := by
  refine ⟨h.len, h.few, h.row.imp id ?_, fun i hi => (h.each i hi).below hb⟩
  rintro ⟨b, off, ha, hl, hc⟩
  exact ⟨b, off, ha, Nat.lt_of_lt_of_le hl hb.size, fun i hi j hj => (hb.cell (p := ⟨b, off + i * 4 + j, none⟩) hl).trans (hc i hi j hj)⟩
theorem area_cells {w : World} {b o : Nat} {x : Area} (h : ∀ j, j < 3 → w.cell? ⟨b, o + j, none⟩ = x.cells[j]?) : w.cell? ⟨b, o, none⟩ = some (.string ⟨x.pre.toArray⟩) ∧ w.cell? ⟨b, o + 1, none⟩ = some (.int .i64 x.low) ∧ w.cell? ⟨b, o + 2, none⟩ = some (.int .i64 x.high) :=
  ⟨h 0 (by omega), h 1 (by omega), h 2 (by omega)⟩
theorem ctry_cells {w : World} {b o : Nat} {x : Ctry} (h : ∀ j, j < 4 → w.cell? ⟨b, o + j, none⟩ = x.cells[j]?) : w.cell? ⟨b, o, none⟩ = some (.string ⟨x.code.toArray⟩) ∧ w.cell? ⟨b, o + 1, none⟩ = some (.string ⟨x.abroad.toArray⟩) ∧ w.cell? ⟨b, o + 2, none⟩ = some (.string ⟨x.trunk.toArray⟩) ∧ w.cell? ⟨b, o + 3, none⟩ = some (.slice x.aa x.an x.ac) :=
  ⟨h 0 (by omega), h 1 (by omega), h 2 (by omega), h 3 (by omega)⟩
end Go.Proofs.YthajppcmmmkfcaaGreatDoor

namespace Go.Proofs.YthajppcmmmkfcaaGreatDoor

/-- Each operation ahead of number m is waited for by one behind it, up to m; an operation waits for earlier ones alone; guards name operations ahead of m. -/
def lastChk (ops : Array Oper) (m : Nat) : Bool :=
  ((List.range m).all fun i => (List.range (m + 1)).any fun k => decide (i < k) && ((ops[k]?).map fun o => o.after.any fun e => Region.binds .any e && e.on == i).getD false) &&
  ((List.range (m + 1)).all fun i => ((ops[i]?).map fun o => o.after.all fun e => !Region.binds .any e || decide (e.on < i)).getD false) &&
  ((List.range m).all fun i => ((ops[i]?).map fun o => match o.guard with | none => true | some (g, _) => decide (g < m)).getD true)

/-- The post of the region without its last operation: that operation is still to come. -/
def lastQ (P : Program) (st : Oper) (Q : Exit → Act → World → Prop) : Exit → Act → World → Prop
  | .normal, a, w => Oper.wp P st a w (fun a' w' => Q .normal a' w') Q ∨ (st.asks P a w ∧ LetsOut Q)
  | e, a, w => Q e a w

section
variable {P : Program} {ops : Array Oper} {Q : Exit → Act → World → Prop} {st : Oper} {m : Nat}

theorem lastQ_other {e : Exit} {a : Act} {w : World} (h : lastQ P st Q e a w) (hn : e ≠ .normal) : Q e a w := by
  cases e <;> first | exact h | exact absurd rfl hn

theorem upon_last {o : Oper} {a : Act} {K K' : Act → World → Prop} (hK : ∀ a w, K a w → K' a w) (r : Result Next) (h : o.upon P a K (lastQ P st Q) r) : o.upon P a K' Q r := by
  cases r with
  | ok n w' =>
    cases n <;> simp only [Oper.upon] at h ⊢ <;>
      first
        | exact hK _ _ h
        | exact Calls.mono h (fun e w'' he => by cases e <;> first | exact hK _ _ he | exact he)
        | exact Rows.mono h (fun _ _ he => hK _ _ he)
  | halt x w' => cases x <;> simp only [Oper.upon] at h ⊢ <;> exact h

variable (ops) in
/-- What is listed has all that it waits for listed. -/
def ClosedL (l : Array Bool) : Prop := ∀ i o, ops[i]? = some o → l.getD i false = true → ∀ e ∈ o.after, Region.binds .any e = true → l.getD e.on false = true

theorem ClosedL.set {l : Array Bool} {i : Nat} (h : ClosedL ops l) (hr : i ∈ Region.ready .any ops l) : ClosedL ops (l.setIfInBounds i true) := by
  intro j o ho hj e he hb
  by_cases hji : j = i
  · subst hji
    obtain ⟨_, o', ho', hall⟩ := mem_ready.1 hr
    rw [ho] at ho'; cases ho'
    exact getD_set_true (hall e he hb)
  · rw [getD_set_ne false (Ne.symm hji)] at hj
    exact getD_set_true (h j o ho hj e he hb)

theorem getD_two {l : Array Bool} {i : Nat} (hi : i < l.size) (b c : Bool) : l.getD i b = l.getD i c := by simp [hi]

theorem chk1 (hc : lastChk ops m = true) (i : Nat) (hi : i < m) : ∃ k o, i < k ∧ k ≤ m ∧ ops[k]? = some o ∧ ∃ e ∈ o.after, Region.binds .any e = true ∧ e.on = i := by
  simp only [lastChk, Bool.and_eq_true, List.all_eq_true, List.any_eq_true, List.mem_range, decide_eq_true_eq] at hc
  obtain ⟨k, hk, hik, hk2⟩ := hc.1.1 i hi
  cases ho : ops[k]? with
  | none => simp [ho] at hk2
  | some o =>
    simp only [ho, Option.map_some, Option.getD_some] at hk2
    obtain ⟨e, he, hb⟩ := Array.any_eq_true'.1 hk2
    simp only [Bool.and_eq_true, beq_iff_eq] at hb
    exact ⟨k, o, hik, by omega, ho, e, he, hb.1, hb.2⟩

theorem chk2 (hc : lastChk ops m = true) (i : Nat) (hi : i ≤ m) : ∃ o, ops[i]? = some o ∧ ∀ e ∈ o.after, Region.binds .any e = true → e.on < i := by
  simp only [lastChk, Bool.and_eq_true, List.all_eq_true, List.mem_range] at hc
  have h := hc.1.2 i (by omega)
  cases ho : ops[i]? with
  | none => simp [ho] at h
  | some o =>
    simp only [ho, Option.map_some, Option.getD_some] at h
    refine ⟨o, rfl, fun e he hb => ?_⟩
    have h1 := Array.all_eq_true_iff_forall_mem.1 h e he
    simpa [hb] using h1

theorem chk3 (hc : lastChk ops m = true) (i : Nat) (hi : i < m) (o : Oper) (ho : ops[i]? = some o) (g : Nat) (b : Bool) (hg : o.guard = some (g, b)) : g < m := by
  simp only [lastChk, Bool.and_eq_true, List.all_eq_true, List.mem_range] at hc
  have h := hc.2 i hi
  simpa [ho, hg] using h

/-- If the last may come up, all others are listed. -/
theorem all_listed (hc : lastChk ops m = true) {l : Array Bool} (hl : l.size = m + 1) (hcl : ClosedL ops l) (hr : m ∈ Region.ready .any ops l) : ∀ i, i < m → l.getD i true = true := by
  obtain ⟨_, om, hom, hall⟩ := mem_ready.1 hr
  have main : ∀ d i, i < m → m - i ≤ d → l.getD i false = true := by
    intro d
    induction d with
    | zero => intro i hi h; omega
    | succ d ih =>
      intro i hi h
      obtain ⟨k, o, hik, hkm, ho, e, he, hb, hon⟩ := chk1 hc i hi
      rcases Nat.lt_or_ge k m with hk | hk
      · rw [← hon]; exact hcl k o ho (ih k hk (by omega)) e he hb
      · obtain rfl : k = m := by omega
        rw [hom] at ho; cases ho
        rw [← hon]; exact hall e he hb
  intro i hi
  rw [getD_two (by omega) true false]
  exact main (m - i) i hi (Nat.le_refl _)

/-- If none of the others may come up, all are listed. -/
theorem listed_of_none (hc : lastChk ops m = true) {l : Array Bool} (hl : l.size = m + 1) (hn : ∀ i, i < m → i ∉ Region.ready .any ops l) : ∀ i, i < m → l.getD i true = true := by
  intro i
  induction i using Nat.strongRecOn with
  | _ i ih =>
    intro hi
    rcases Bool.eq_false_or_eq_true (l.getD i true) with h | h
    · exact h
    · refine absurd (mem_ready.2 ⟨h, ?_⟩) (hn i hi)
      obtain ⟨o, ho, hd⟩ := chk2 hc i (by omega)
      refine ⟨o, ho, fun e he hb => ?_⟩
      have := hd e he hb
      rw [getD_two (by omega) false true]
      exact ih e.on this (by omega)

theorem ready_all {l : Array Bool} (hsz : ops.size = m + 1) (h : ∀ i, i < m + 1 → l.getD i true = true) : Region.ready .any ops l = [] := by
  refine List.eq_nil_iff_forall_not_mem.2 fun i hi => ?_
  obtain ⟨h0, o, ho, _⟩ := mem_ready.1 hi
  have hlt := (Array.getElem?_eq_some_iff.1 ho).1
  rw [h i (by omega)] at h0
  cases h0

/-- The step of the last operation. -/
theorem last_step (hsz : ops.size = m + 1) (hst : ops[m]? = some st) (hg : st.guard = none) {l : Array Bool} (hl : l.size = m + 1) (h : ∀ i, i < m → l.getD i true = true) {a : Act} {w : World} (hq : lastQ P st Q .normal a w) (fuel : Nat) :
    wpOp P ops Q m (wpAny P .any ops Q fuel (l.setIfInBounds m true)) a w := by
  unfold wpOp
  simp only [hst]
  rw [if_pos (by simp [Region.wanted, hg])]
  refine hq.imp (Oper.wp_mono (fun a' w' h' => wpAny_done (ready_all hsz fun i hi => ?_) h' fuel)) id
  by_cases him : i = m
  · subst him; simp [hl]
  · rw [getD_set_ne true (Ne.symm him)]; exact h i (by omega)

theorem wpOp_last {ops' : Array Oper} (hc : lastChk ops m = true) (hsame : ∀ i, i < m → ops'[i]? = ops[i]?) {i : Nat} (hi : i < m) {K K' : Act → World → Prop} (hK : ∀ a w, K a w → K' a w) {a : Act} {w : World} (h : wpOp P ops' (lastQ P st Q) i K a w) : wpOp P ops Q i K' a w := by
  unfold wpOp at *
  rw [hsame i hi] at h
  cases ho : ops[i]? with
  | none => simp only [ho] at h ⊢; exact hK _ _ h
  | some o =>
    simp only [ho] at h ⊢
    have hw : Region.wanted o (yielded ops' a.tmps) = Region.wanted o (yielded ops a.tmps) := by
      unfold Region.wanted
      cases hgd : o.guard with
      | none => rfl
      | some gb =>
        obtain ⟨g, b⟩ := gb
        have := chk3 hc i hi o ho g b hgd
        simp only [yielded, hsame g this]
    rw [hw] at h
    split
    · rename_i hwt
      simp only [hwt, if_true] at h
      rcases h with h | ⟨h1, a1, w1, h2⟩
      · exact Or.inl (upon_last hK _ h)
      · exact Or.inr ⟨h1, a1, w1, h2⟩
    · rename_i hwt
      simp only [hwt] at h
      exact hK _ _ h

theorem last_any {ops' : Array Oper} (hsz : ops.size = m + 1) (hst : ops[m]? = some st) (hg : st.guard = none) (hc : lastChk ops m = true) (hsz' : ops'.size = m) (hsame : ∀ i, i < m → ops'[i]? = ops[i]?) :
    ∀ (fuel : Nat) (l l' : Array Bool) (a : Act) (w : World), l.size = m + 1 → l'.size = m → (∀ i, i < m → l'.getD i true = l.getD i true) → l.getD m true = false → ClosedL ops l →
      wpAny P .any ops' (lastQ P st Q) fuel l' a w → wpAny P .any ops Q (fuel + 1) l a w := by
  have rdy : ∀ {l l' : Array Bool} {i : Nat}, l.size = m + 1 → l'.size = m → (∀ i, i < m → l'.getD i true = l.getD i true) → i < m → (i ∈ Region.ready .any ops l ↔ i ∈ Region.ready .any ops' l') := by
    intro l l' i hl hl' he hi
    rw [mem_ready, mem_ready, hsame i hi, he i hi]
    obtain ⟨o, ho, hd⟩ := chk2 hc i (by omega)
    have key : ∀ e ∈ o.after, Region.binds .any e = true → l'.getD e.on false = l.getD e.on false := fun e hem hb => by
      have := hd e hem hb
      rw [getD_two (by omega) false true, he e.on (by omega), getD_two (l := l) (by omega) false true]
    constructor
    · rintro ⟨h0, o', ho', hall⟩
      rw [ho] at ho'; cases ho'
      exact ⟨h0, o, ho, fun e hem hb => by rw [key e hem hb]; exact hall e hem hb⟩
    · rintro ⟨h0, o', ho', hall⟩
      rw [ho] at ho'; cases ho'
      exact ⟨h0, o, ho, fun e hem hb => by rw [← key e hem hb]; exact hall e hem hb⟩
  have rlt : ∀ {l' : Array Bool} {i : Nat}, i ∈ Region.ready .any ops' l' → i < m := fun hi => by
    obtain ⟨_, o, ho, _⟩ := mem_ready.1 hi
    have := (Array.getElem?_eq_some_iff.1 ho).1
    omega
  have mrdy : ∀ {l : Array Bool}, l.size = m + 1 → l.getD m true = false → (∀ i, i < m → l.getD i true = true) → m ∈ Region.ready .any ops l := fun {l} hl hm h => by
    obtain ⟨o, ho, hd⟩ := chk2 hc m (Nat.le_refl _)
    exact mem_ready.2 ⟨hm, o, ho, fun e he hb => by have := hd e he hb; rw [getD_two (by omega) false true]; exact h _ this⟩
  have ile : ∀ {l : Array Bool} {i : Nat}, i ∈ Region.ready .any ops l → i ≤ m := fun hi => by
    obtain ⟨_, o, ho, _⟩ := mem_ready.1 hi
    have := (Array.getElem?_eq_some_iff.1 ho).1
    omega
  have nonempty : ∀ {l l' : Array Bool}, l.size = m + 1 → l'.size = m → (∀ i, i < m → l'.getD i true = l.getD i true) → l.getD m true = false → Region.ready .any ops l ≠ [] := by
    intro l l' hl hl' he hm h0
    have h1 := listed_of_none hc hl (fun i hi hr => by rw [h0] at hr; cases hr)
    have := mrdy hl hm h1
    rw [h0] at this; cases this
  intro fuel
  induction fuel with
  | zero =>
    intro l l' a w hl hl' he hm hcl H
    refine ⟨fun h0 => absurd h0 (nonempty hl hl' he hm), fun i hi => ?_⟩
    by_cases him : i = m
    · subst him
      exact last_step hsz hst hg hl (all_listed hc hl hcl hi) H.2 0
    · have := (rdy hl hl' he (by have := ile hi; omega)).1 hi
      rw [H.1] at this; cases this
  | succ fuel ih =>
    intro l l' a w hl hl' he hm hcl H
    refine ⟨fun h0 => absurd h0 (nonempty hl hl' he hm), fun i hi => ?_⟩
    by_cases him : i = m
    · subst him
      have hall := all_listed hc hl hcl hi
      refine last_step hsz hst hg hl hall (H.1 ?_) (fuel + 1)
      refine List.eq_nil_iff_forall_not_mem.2 fun j hj => ?_
      have hjm := rlt hj
      have h0 := (mem_ready.1 hj).1
      rw [he j hjm, hall j hjm] at h0; cases h0
    · have hilt : i < m := by have := ile hi; omega
      refine wpOp_last hc hsame hilt (fun a' w' h' => ?_) (H.2 i ((rdy hl hl' he hilt).1 hi))
      refine ih _ _ a' w' (by simpa using hl) (by simpa using hl') (fun j hj => ?_) ?_ (hcl.set hi) h'
      · by_cases hji : j = i
        · subst hji; simp [hl, hl', hj, Nat.lt_succ_of_lt hj]
        · rw [getD_set_ne true (Ne.symm hji), getD_set_ne true (Ne.symm hji)]; exact he j hj
      · rw [getD_set_ne true him]; exact hm

/-- **A region that draws, walked without its last operation**: S need not hold behind that one. -/
theorem region_last_held {S : World → Prop} {id : Nat} {ops' : Array Oper} {a : Act} {w : World} (hm : P.follows .mixedOrders = true) (hops : ops = ops'.push st) (hg : st.guard = none) (hc : lastChk ops ops'.size = true)
    (hS : S w.drew) (h : S w.drew → wpAnyH P .any ops' (lastQ P st Q) S ops'.size (Array.replicate ops'.size false) a w.drew) : (Code.region id ops true).wp P Q a w := by
  refine wp_region_any hm ?_
  have hsz : ops.size = ops'.size + 1 := by rw [hops]; simp
  rw [hsz]
  refine last_any (m := ops'.size) hsz (by rw [hops]; simp) hg hc rfl (fun i hi => by rw [hops]; simp [Array.getElem?_push, Nat.ne_of_lt hi]) _ _ _ a _ (by simp) (by simp) (fun i hi => by simp [hi, Nat.lt_succ_of_lt hi]) (by simp) ?_ (wpAny_of_held _ _ _ _ (h hS))
  intro i o ho hl e he hb
  exfalso
  by_cases h' : i < ops'.size + 1
  · simp [h'] at hl
  · simp [h'] at hl

/-! ### A fixed order: what yields in every world that meets S is taken first ('true'); the rest comes up one by one ('false') -/

/-- The order fits the region. -/
def seqOk (ops : Array Oper) : List (Bool × Nat) → Array Bool → Bool
  | [], listed => (Region.ready .any ops listed).isEmpty
  | (true, i) :: rest, listed => (ops[i]?).isSome && Region.free .any ops listed i && (Region.ready .any ops listed).contains i && seqOk ops rest (listed.setIfInBounds i true)
  | (false, i) :: rest, listed => (Region.ready .any ops listed == [i]) && ((ops[i]?).map fun o => o.guard.isNone).getD false && seqOk ops rest (listed.setIfInBounds i true)

/-- The region in that order. -/
def wpSeq (P : Program) (ops : Array Oper) (Q : Exit → Act → World → Prop) (S : World → Prop) : List (Bool × Oper) → Act → World → Prop
  | [], a, w => Q .normal a w
  | (true, o) :: rest, a, w => ∃ v, YieldsIf P ops S o v a ∧ wpSeq P ops Q S rest (a.put o.dst v) w
  | (false, o) :: rest, a, w => o.wp P a w (fun a' w' => S w' ∧ wpSeq P ops Q S rest a' w') Q

theorem wpSeq_take {S : World → Prop} {o : Oper} {rest : List (Bool × Oper)} {a : Act} {w : World} {v : Value} (hw : Region.wanted o (yielded ops a.tmps) = true) (hv : ∀ w, S w → (execOp a.eval o).run P w = .ok (.value v) w) (h : wpSeq P ops Q S rest (a.put o.dst v) w) : wpSeq P ops Q S ((true, o) :: rest) a w :=
  ⟨v, Or.inl ⟨hw, hv⟩, h⟩
theorem wpSeq_skip {S : World → Prop} {o : Oper} {rest : List (Bool × Oper)} {a : Act} {w : World} (hw : Region.wanted o (yielded ops a.tmps) = false) (h : wpSeq P ops Q S rest (a.put o.dst undef) w) : wpSeq P ops Q S ((true, o) :: rest) a w :=
  ⟨undef, Or.inr ⟨hw, rfl⟩, h⟩
theorem wpSeq_do {S : World → Prop} {o : Oper} {rest : List (Bool × Oper)} {a : Act} {w : World} (h : ∀ K' : Act → World → Prop, Shut (∀ a w, S w → (S w → wpSeq P ops Q S rest a w) → K' a w) → Oper.wp P o a w K' Q) : wpSeq P ops Q S ((false, o) :: rest) a w :=
  h _ (fun _ _ hS hW => ⟨hS, hW hS⟩)
theorem wpSeq_nil {S : World → Prop} {a : Act} {w : World} (h : Q .normal a w) : wpSeq P ops Q S [] a w := h

theorem seq_held {S : World → Prop} (hs : Region.noSelect ops = true) (hQ : ∀ c a (d : Option Tmp) (v : Value) w, Q (.panic c) (a.put d v) w → Q (.panic c) a w) : ∀ (l : List (Bool × Nat)) (lo : List (Bool × Oper)) (listed : Array Bool) (a : Act) (w : World), l.map (fun p => (p.1, ops[p.2]?)) = lo.map (fun p => (p.1, some p.2)) → seqOk ops l listed = true → S w →
    wpSeq P ops Q S lo a w → wpAnyH P .any ops Q S l.length listed a w
  | [], lo, listed, a, w, he, hok, hS, h => by
    cases lo with
    | cons x xs => simp at he
    | nil => exact wpAnyH_done (by simpa [seqOk] using hok) h _
  | (b, i) :: l, lo, listed, a, w, he, hok, hS, h => by
    cases lo with
    | nil => simp at he
    | cons x xs =>
      obtain ⟨b', o⟩ := x
      simp only [List.map_cons, List.cons.injEq, Prod.mk.injEq] at he
      obtain ⟨⟨rfl, ho⟩, he⟩ := he
      cases b with
      | true =>
        obtain ⟨v, hy, h⟩ := h
        simp only [seqOk, Bool.and_eq_true] at hok
        exact wpAnyH_take ho hs hok.1.1.2 hok.1.2 (fun c a w => hQ c a _ _ w) hy hS (seq_held hs hQ l xs _ _ w he hok.2 hS h)
      | false =>
        simp only [seqOk, Bool.and_eq_true, beq_iff_eq, ho, Option.map_some, Option.getD_some] at hok
        refine wpAnyH_all hok.1.1 (by simp) (fun j hj => ?_)
        simp only [List.mem_singleton] at hj
        subst hj
        unfold wpOp
        simp only [ho]
        rw [if_pos (by simp only [Region.wanted]; cases hg : o.guard with | none => rfl | some g => simp [hg] at hok)]
        exact Or.inl (Oper.wp_mono (fun a' w' h' => ⟨h'.1, seq_held hs hQ l xs _ a' w' he hok.2 h'.1 h'.2⟩) h)

/-- **A region that draws, in a fixed order, without its last operation.** -/
theorem region_seq_last {S : World → Prop} {id : Nat} {L : List Oper} {a : Act} {w : World} (l : List (Bool × Nat)) (lo : List (Bool × Oper)) (hm : P.follows .mixedOrders = true) (hst : L.getLast? = some st) (hg : st.guard = none) (hc : lastChk L.toArray (L.length - 1) = true)
    (hs : Region.noSelect L.dropLast.toArray = true) (hlen : l.length = L.length - 1) (hok : seqOk L.dropLast.toArray l (Array.replicate (L.length - 1) false) = true) (hlo : l.map (fun p => (p.1, L.dropLast.toArray[p.2]?)) = lo.map (fun p => (p.1, some p.2)))
    (hQ : ∀ c a (d : Option Tmp) (v : Value) w, Q (.panic c) (a.put d v) w → Q (.panic c) a w) (hS : S w.drew) (h : S w.drew → wpSeq P L.dropLast.toArray (lastQ P st Q) S lo a w.drew) : (Code.region id L.toArray true).wp P Q a w := by
  have hd : L.dropLast.toArray.size = L.length - 1 := by simp
  refine region_last_held (S := S) (ops' := L.dropLast.toArray) (st := st) hm ?_ hg (by rw [hd]; exact hc) hS fun hS => ?_
  · obtain ⟨hne, he⟩ : ∃ hne : L ≠ [], L.getLast hne = st := by
      cases L with
      | nil => simp at hst
      | cons x xs => exact ⟨by simp, by rw [List.getLast?_eq_some_getLast (by simp)] at hst; exact Option.some.inj hst⟩
    have := List.dropLast_concat_getLast hne
    rw [he] at this
    conv => lhs; rw [← this]
    simp
  · have hok' : seqOk L.dropLast.toArray l (Array.replicate L.dropLast.toArray.size false) = true := by rw [hd]; exact hok
    have hl : L.dropLast.toArray.size = l.length := by rw [hd, hlen]
    have := seq_held (Q := lastQ P st Q) hs (fun c a d v w h => hQ c a d v w h) l lo _ _ _ hlo hok' hS (h hS)
    rw [← hl] at this
    exact this

/-- **A region that draws, in a fixed order.** -/
theorem region_seq {S : World → Prop} {id : Nat} {a : Act} {w : World} (l : List (Bool × Nat)) (lo : List (Bool × Oper)) (hm : P.follows .mixedOrders = true)
    (hs : Region.noSelect ops = true) (hlen : l.length = ops.size) (hok : seqOk ops l (Array.replicate ops.size false) = true) (hlo : l.map (fun p => (p.1, ops[p.2]?)) = lo.map (fun p => (p.1, some p.2)))
    (hQ : ∀ c a (d : Option Tmp) (v : Value) w, Q (.panic c) (a.put d v) w → Q (.panic c) a w) (hS : S w.drew) (h : S w.drew → wpSeq P ops Q S lo a w.drew) : (Code.region id ops true).wp P Q a w :=
  wp_region_held_drew (S := S) hm hS fun hS => by rw [← hlen] at hok ⊢; exact seq_held hs hQ l lo _ _ _ hlo hok hS (h hS)

/-- The order that is found by taking what may be taken first. -/
def seqFind (can : Nat → Bool) (ops : Array Oper) : Nat → Array Bool → List (Bool × Nat)
  | 0, _ => []
  | fuel + 1, listed =>
    match (Region.ready .any ops listed).find? (fun i => can i && Region.free .any ops listed i) with
    | some i => (true, i) :: seqFind can ops fuel (listed.setIfInBounds i true)
    | none => match Region.ready .any ops listed with
      | [] => []
      | i :: _ => (false, i) :: seqFind can ops fuel (listed.setIfInBounds i true)
end
end Go.Proofs.YthajppcmmmkfcaaGreatDoor

namespace Go.Proofs.YthajppcmmmkfcaaGreatDoor

section
variable {P : Program} {ops : Array Oper} {Q : Exit → Act → World → Prop}

/-- The order fits the region: what is marked 'true' may be taken first, what is marked 'false' is the only one that may come up. -/
def seqOkI (ops : Array Oper) : List (Bool × Nat) → Array Bool → Bool
  | [], listed => (Region.ready .any ops listed).isEmpty
  | (true, i) :: rest, listed => (ops[i]?).isSome && Region.free .any ops listed i && (Region.ready .any ops listed).contains i && seqOkI ops rest (listed.setIfInBounds i true)
  | (false, i) :: rest, listed => (ops[i]?).isSome && (Region.ready .any ops listed == [i]) && seqOkI ops rest (listed.setIfInBounds i true)

def noOper : Oper := ⟨none, .move (.const undef), 0, "", #[], none⟩
/-- The operations in that order. -/
def seqOps (L : List Oper) : List (Bool × Nat) → List (Bool × Oper)
  | [] => []
  | (b, i) :: rest => (b, L.getD i noOper) :: seqOps L rest

/-- The region in that order. -/
def wpSeqI (P : Program) (ops : Array Oper) (Q : Exit → Act → World → Prop) (S : World → Prop) : List (Bool × Oper) → Act → World → Prop
  | [], a, w => Q .normal a w
  | (true, o) :: rest, a, w => ∃ v, YieldsIf P ops S o v a ∧ (∀ c a w, Q (.panic c) (a.put o.dst v) w → Q (.panic c) a w) ∧ wpSeqI P ops Q S rest (a.put o.dst v) w
  | (false, o) :: rest, a, w => Region.wanted o (yielded ops a.tmps) = true ∧ o.wp P a w (fun a' w' => S w' ∧ wpSeqI P ops Q S rest a' w') Q

theorem seqI_take {S : World → Prop} {o : Oper} {rest : List (Bool × Oper)} {a : Act} {w : World} {v : Value} (hw : Region.wanted o (yielded ops a.tmps) = true) (hv : ∀ w, S w → (execOp a.eval o).run P w = .ok (.value v) w) (hQ : ∀ c a w, Q (.panic c) (a.put o.dst v) w → Q (.panic c) a w) (h : wpSeqI P ops Q S rest (a.put o.dst v) w) : wpSeqI P ops Q S ((true, o) :: rest) a w :=
  ⟨v, Or.inl ⟨hw, hv⟩, hQ, h⟩
theorem seqI_skip {S : World → Prop} {o : Oper} {rest : List (Bool × Oper)} {a : Act} {w : World} (hw : Region.wanted o (yielded ops a.tmps) = false) (hQ : ∀ c a w, Q (.panic c) (a.put o.dst undef) w → Q (.panic c) a w) (h : wpSeqI P ops Q S rest (a.put o.dst undef) w) : wpSeqI P ops Q S ((true, o) :: rest) a w :=
  ⟨undef, Or.inr ⟨hw, rfl⟩, hQ, h⟩
/-- A call of a Go function. -/
theorem seqI_call {S : World → Prop} {o : Oper} {rest : List (Bool × Oper)} {a : Act} {w : World} {R : Ending → World → Prop} (f : Nat) (vs : Array Value) (hw : Region.wanted o (yielded ops a.tmps) = true) (h : (execOp a.eval o).run P w = .ok (.enter f vs) w) (hc : Calls P f vs w R) (hR : ∀ e w', R e w' → ∃ v, e = .returned v ∧ S w' ∧ wpSeqI P ops Q S rest (a.put o.dst v) w') : wpSeqI P ops Q S ((false, o) :: rest) a w := by
  refine ⟨hw, ?_⟩
  unfold Oper.wp; rw [h]
  refine Calls.mono hc fun e w' he => ?_
  obtain ⟨v, rfl, hk⟩ := hR e w' he
  exact hk
/-- Any other operation. -/
theorem seqI_do {S : World → Prop} {o : Oper} {rest : List (Bool × Oper)} {a : Act} {w : World} (hw : Region.wanted o (yielded ops a.tmps) = true) (h : o.wp P a w (fun a' w' => S w' ∧ wpSeqI P ops Q S rest a' w') Q) : wpSeqI P ops Q S ((false, o) :: rest) a w := ⟨hw, h⟩
theorem seqI_nil {S : World → Prop} {a : Act} {w : World} (h : Q .normal a w) : wpSeqI P ops Q S [] a w := h

theorem seqI_held {S : World → Prop} {L : List Oper} (hs : Region.noSelect L.toArray = true) : ∀ (l : List (Bool × Nat)) (listed : Array Bool) (a : Act) (w : World), seqOkI L.toArray l listed = true → S w →
    wpSeqI P L.toArray Q S (seqOps L l) a w → wpAnyH P .any L.toArray Q S l.length listed a w
  | [], listed, a, w, hok, hS, h => wpAnyH_done (by simpa [seqOkI] using hok) h _
  | (true, i) :: l, listed, a, w, hok, hS, h => by
    obtain ⟨v, hy, hQ, h⟩ := h
    simp only [seqOkI, Bool.and_eq_true] at hok
    have ho : L.toArray[i]? = some (L.getD i noOper) := by
      have h1 := hok.1.1.1
      obtain ⟨o, ho⟩ := Option.isSome_iff_exists.1 h1
      rw [ho]
      have : L[i]? = some o := by simpa using ho
      rw [List.getD_eq_getElem?_getD, this]; rfl
    exact wpAnyH_take ho hs hok.1.1.2 hok.1.2 hQ hy hS (seqI_held hs l _ _ w hok.2 hS h)
  | (false, i) :: l, listed, a, w, hok, hS, h => by
    obtain ⟨hw, h⟩ := h
    simp only [seqOkI, Bool.and_eq_true, beq_iff_eq] at hok
    have ho : L.toArray[i]? = some (L.getD i noOper) := by
      have h1 := hok.1.1
      obtain ⟨o, ho⟩ := Option.isSome_iff_exists.1 h1
      rw [ho]
      have : L[i]? = some o := by simpa using ho
      rw [List.getD_eq_getElem?_getD, this]; rfl
    refine wpAnyH_all hok.1.2 (by simp) (fun j hj => ?_)
    simp only [List.mem_singleton] at hj
    subst hj
    unfold wpOp
    simp only [ho]
    rw [if_pos hw]
    exact Or.inl (Oper.wp_mono (fun a' w' h' => ⟨h'.1, seqI_held hs l _ a' w' hok.2 h'.1 h'.2⟩) h)

/-- **A region that draws, in a forced order.** -/
theorem region_seqI {S : World → Prop} {id : Nat} {L : List Oper} {a : Act} {w : World} (l : List (Bool × Nat)) (hm : P.follows .mixedOrders = true) (hs : Region.noSelect L.toArray = true) (hlen : l.length = L.toArray.size) (hok : seqOkI L.toArray l (Array.replicate L.toArray.size false) = true)
    (hS : S w.drew) (h : wpSeqI P L.toArray Q S (seqOps L l) a w.drew) : (Code.region id L.toArray true).wp P Q a w :=
  wp_region_held_drew (S := S) hm hS fun hS => by rw [← hlen] at hok ⊢; exact seqI_held hs l _ _ _ hok hS h
end
end Go.Proofs.YthajppcmmmkfcaaGreatDoor

set_option linter.unusedVariables false
set_option linter.unusedSimpArgs false
namespace Go.Proofs.YthajppcmmmkfcaaGreatDoor
open Go.RowKit

def boxC (x : Ctry) : Obj := .cells x.cells.toArray 68
theorem hasPrefix_any (s p : ByteArray) (w : World) : Calls Tryz.prog 55 #[.string s, .string p] w fun e w' => e = .returned (.bool (Lib.hasPrefix s.data.toList p.data.toList)) ∧ w = w' := (Tryz.strings_HasPrefix s p w).mono (fun e w' h => ⟨h.1, h.2.symm⟩)
theorem hasPrefix_l (s p : List UInt8) (w : World) : Calls Tryz.prog 55 #[.string ⟨s.toArray⟩, .string ⟨p.toArray⟩] w fun e w' => e = .returned (.bool (Lib.hasPrefix s p)) ∧ w = w' := hasPrefix_any ⟨s.toArray⟩ ⟨p.toArray⟩ w
theorem digitsOf_l (s : List UInt8) (lo hi : Int) (w : World) (hs : s.length ≤ 1000000) : Calls Tryz.prog 49 #[.string ⟨s.toArray⟩, .int .i64 lo, .int .i64 hi] w fun e w' => e = .returned (.bool (digitsB s lo hi)) ∧ Below w.heap.size w w' := digitsOf_any ⟨s.toArray⟩ lo hi w (by show s.length ≤ _; omega)

theorem cat_str (x y : List UInt8) : ((⟨x.toArray⟩ : ByteArray) ++ ⟨y.toArray⟩) = ⟨(x ++ y).toArray⟩ := by
  apply ByteArray.ext
  simp
def ErrPost (x : Int) (w : World) (e : Ending) (w' : World) : Prop := e = .returned (.int .i64 x) ∧ Below w.heap.size w w'

set_option maxRecDepth 100000 in
set_option maxHeartbeats 2000000 in
theorem checkArea_any (w : World) (c : Ctry) (hc : CtryFine w c) (i : Nat) (hi : i < c.an) : Calls Tryz.prog 121 #[c.val, .int .i64 i] w (ErrPost (areaErr c i) w) := by
  have hil : i < c.areas.length := by rw [← hc.row.len]; exact hi
  have hfine := hc.each i hil
  have hmany := hc.many
  rcases hc.row.row with h0 | ⟨b, off, haa, hb, hcl⟩
  · omega
  obtain ⟨a0, a1, a2⟩ := area_cells (hcl i hi)
  have HPV : Hid (0 < i → w.cell? ⟨b, off + (i - 1) * 3, none⟩ = some (.string ⟨(prevArea c i).pre.toArray⟩)) := fun h9 => (area_cells (hcl (i - 1) (by omega))).1
  have hcode := hc.code
  have habr := hc.abroad
  have htr := hc.trunk
  have HDEF : Hid (areaErr c i = areaErrOf c i (c.areas.getD i noArea) (prevArea c i)) := rfl
  obtain ⟨f1, f2, f3, f4, f5⟩ := hfine
  generalize areaErr c i = R at HDEF ⊢
  generalize c.areas.getD i noArea = x at a0 a1 a2 HDEF f1 f2 f3 f4 f5
  generalize prevArea c i = p at HPV HDEF
  obtain ⟨code, abroad, trunk, aa, an, ac, areas⟩ := c
  obtain ⟨pre, low, high⟩ := x
  simp only at haa hi hcode habr htr hmany a0 a1 a2 f1 f2 f3 f4 f5
  subst haa
  clear hcl hil hc
  unfold Ctry.val Ctry.cells
  simp only
  go_enter Tryz.func121, Tryz.ntmps121
  go_upto_region 1 with (fail)
  have HCF := Lib.hid hcode
  go_region
  rw [cat_str]
  generalize hW0 : World.drew _ = W1
  have hW := Lib.hid hW0
  clear hW0
  have hBW : Below w.heap.size w W1 := by rw [← hW.out]; exact ext_drew (ext_alloc (ext_alloc (Below.refl _ _)))
  have hzz : W1.heap.size = w.heap.size + 2 := by rw [← hW.out]; simp
  have d0 : W1.cell? ⟨w.heap.size, 0, none⟩ = some (.string ⟨code.toArray⟩) := by rw [← hW.out]; go_simp
  have d1 : W1.cell? ⟨w.heap.size, 1, none⟩ = some (.string ⟨abroad.toArray⟩) := by rw [← hW.out]; go_simp
  have d3 : W1.cell? ⟨w.heap.size, 3, none⟩ = some (.slice (some ⟨b, off, none⟩) an ac) := by rw [← hW.out]; go_simp
  have e0 : W1.cell? ⟨w.heap.size + 1, 0, none⟩ = some (.string ⟨pre.toArray⟩) := by rw [← hW.out]; go_simp
  have e1 : W1.cell? ⟨w.heap.size + 1, 1, none⟩ = some (.int .i64 low) := by rw [← hW.out]; go_simp
  have e2 : W1.cell? ⟨w.heap.size + 1, 2, none⟩ = some (.int .i64 high) := by rw [← hW.out]; go_simp
  have HB1 := Lib.hid hBW
  have hz1 : w.heap.size + 1 < W1.heap.size := by omega
  have hz0 : w.heap.size < W1.heap.size := by omega
  clear hW hBW hzz a0 a1 a2
  as_aux_lemma =>
    go_wp2_with fail
    refine (digitsOf_l pre 1 8 _ (by omega)).mono ?_
    rintro e w2 ⟨rfl, hb2⟩
    have HB2 := Lib.hid (ext_trans HB1.out hb2)
    obtain ⟨qc, qf⟩ := bcell hb2
    have D0 := (qc _ 0 hz0).trans d0
    have D1 := (qc _ 1 hz0).trans d1
    have D3 := (qc _ 3 hz0).trans d3
    have E0 := (qc _ 0 hz1).trans e0
    have E1 := (qc _ 1 hz1).trans e1
    have E2 := (qc _ 2 hz1).trans e2
    have hz2 : w.heap.size + 1 < w2.heap.size := Nat.lt_of_lt_of_le hz1 hb2.size
    have hzb : b < w2.heap.size := Nat.lt_of_lt_of_le hb HB2.out.size
    have HPV2 : Hid (0 < i → w2.cell? ⟨b, off + (i - 1) * 3, none⟩ = some (.string ⟨p.pre.toArray⟩)) := fun h9 => (HB2.out.cell (p := ⟨b, off + (i - 1) * 3, none⟩) hb).trans (HPV.out h9)
    have HD2 : Hid (R = if digitsB pre 1 8 = false then 3 else if (decide (0 < i) && leS pre p.pre) = true then 7 else if ((decide (0 < i) && Lib.hasPrefix pre p.pre) || (Lib.hasPrefix (trunk ++ pre) abroad || Lib.hasPrefix abroad (trunk ++ pre))) = true then 13 else if areaBad code pre low high = true then 1 else 0) := HDEF.out
    clear qc qf hb2 d0 d1 d3 e0 e1 e2 HB1 HPV HDEF
    generalize digitsB pre 1 8 = g1 at HD2 ⊢
    as_aux_lemma =>
      cases g1
      · have HR : Hid (R = 3) := HD2.out
        as_aux_lemma =>
          go_wp2_with fail
          go_ret
          exact ⟨by rw [HR.out]; rfl, HB2.out⟩
      · have HD3 : Hid (R = if (decide (0 < i) && leS pre p.pre) = true then 7 else if ((decide (0 < i) && Lib.hasPrefix pre p.pre) || (Lib.hasPrefix (trunk ++ pre) abroad || Lib.hasPrefix abroad (trunk ++ pre))) = true then 13 else if areaBad code pre low high = true then 1 else 0) := HD2.out
        go_upto_region 4 with (fail)
        go_cut [26] (fun s26 wx => s26 = .bool (decide (0 < i) && leS pre p.pre) ∧ Hid (wx = w2.drew))
        case first =>
          by_cases hi0 : i = 0
          · have hk1 : decide (0 < i) = false := decide_eq_false (by omega)
            clear hi0
            as_aux_lemma =>
              refine region_seqI (S := (fun _ => True)) [(true, 0), (true, 1), (true, 2), (true, 3), (true, 4), (true, 5), (true, 6), (true, 7), (true, 8), (true, 9), (true, 10), (true, 11), (true, 12), (true, 13), (true, 14)] (by kernel_rfl) (by kernel_rfl) rfl (by kernel_rfl) trivial ?_
              simp only [seqOps, List.getD_cons_zero, List.getD_cons_succ]
              refine seqI_take (v := .int .i64 i) rfl (fun w9 hS9 => by go_simp) (fun _ _ _ h => h) ?_
              simp only [Act.put, List.setIfInBounds_toArray, List.set_cons_zero, List.set_cons_succ]
              refine seqI_take (v := .bool false) rfl (fun w9 hS9 => by go_simp) (fun _ _ _ h => h) ?_
              simp only [Act.put, List.setIfInBounds_toArray, List.set_cons_zero, List.set_cons_succ]
              refine seqI_take (v := .bool false) rfl (fun w9 hS9 => by go_simp) (fun _ _ _ h => h) ?_
              simp only [Act.put, List.setIfInBounds_toArray, List.set_cons_zero, List.set_cons_succ]
              refine seqI_skip rfl (fun _ _ _ h => h) ?_
              simp only [Act.put, List.setIfInBounds_toArray, List.set_cons_zero, List.set_cons_succ]
              refine seqI_skip rfl (fun _ _ _ h => h) ?_
              simp only [Act.put, List.setIfInBounds_toArray, List.set_cons_zero, List.set_cons_succ]
              refine seqI_skip rfl (fun _ _ _ h => h) ?_
              simp only [Act.put, List.setIfInBounds_toArray, List.set_cons_zero, List.set_cons_succ]
              refine seqI_skip rfl (fun _ _ _ h => h) ?_
              simp only [Act.put, List.setIfInBounds_toArray, List.set_cons_zero, List.set_cons_succ]
              refine seqI_skip rfl (fun _ _ _ h => h) ?_
              simp only [Act.put, List.setIfInBounds_toArray, List.set_cons_zero, List.set_cons_succ]
              refine seqI_skip rfl (fun _ _ _ h => h) ?_
              simp only [Act.put, List.setIfInBounds_toArray, List.set_cons_zero, List.set_cons_succ]
              refine seqI_skip rfl (fun _ _ _ h => h) ?_
              simp only [Act.put, List.setIfInBounds_toArray, List.set_cons_zero, List.set_cons_succ]
              refine seqI_skip rfl (fun _ _ _ h => h) ?_
              simp only [Act.put, List.setIfInBounds_toArray, List.set_cons_zero, List.set_cons_succ]
              refine seqI_skip rfl (fun _ _ _ h => h) ?_
              simp only [Act.put, List.setIfInBounds_toArray, List.set_cons_zero, List.set_cons_succ]
              refine seqI_skip rfl (fun _ _ _ h => h) ?_
              simp only [Act.put, List.setIfInBounds_toArray, List.set_cons_zero, List.set_cons_succ]
              refine seqI_take (v := .bool false) rfl (fun w9 hS9 => by go_simp) (fun _ _ _ h => h) ?_
              simp only [Act.put, List.setIfInBounds_toArray, List.set_cons_zero, List.set_cons_succ]
              refine seqI_take (v := .bool false) rfl (fun w9 hS9 => by go_simp) (fun _ _ _ h => h) ?_
              simp only [Act.put, List.setIfInBounds_toArray, List.set_cons_zero, List.set_cons_succ]
              refine seqI_nil ?_
              go_wp2_with fail
              go_meet
              exact ⟨by rw [hk1]; rfl, rfl⟩
          · have hk1 : 0 < i := by omega
            have hk2 : decide (0 < i) = true := decide_eq_true hk1
            have p0 := HPV2.out hk1
            have kq : ((i : Int) - 1).toNat = i - 1 := by omega
            have kr : 0 ≤ (i : Int) - 1 := by omega
            have ks : (i : Int) - 1 < an := by omega
            have kw : IntKind.i64.wrap ((i : Int) - 1) = (i : Int) - 1 := IntWalk.i64_in _ (by omega)
            as_aux_lemma =>
              refine region_seqI (S := (fun (w9 : World) => w9.cell? ⟨w.heap.size, 3, none⟩ = some (.slice (some ⟨b, off, none⟩) an ac) ∧ w9.cell? ⟨w.heap.size + 1, 0, none⟩ = some (.string ⟨pre.toArray⟩) ∧ w9.cell? ⟨b, off + (i - 1) * 3, none⟩ = some (.string ⟨p.pre.toArray⟩))) [(true, 0), (true, 1), (true, 2), (true, 3), (true, 4), (true, 5), (true, 6), (true, 7), (true, 8), (true, 9), (true, 10), (true, 11), (true, 12), (true, 13), (true, 14)] (by kernel_rfl) (by kernel_rfl) rfl (by kernel_rfl) ⟨D3, E0, p0⟩ ?_
              simp only [seqOps, List.getD_cons_zero, List.getD_cons_succ]
              refine seqI_take (v := .int .i64 i) rfl (fun w9 hS9 => by obtain ⟨s0, s1, s2⟩ := hS9; go_simp) (fun _ _ _ h => h) ?_
              simp only [Act.put, List.setIfInBounds_toArray, List.set_cons_zero, List.set_cons_succ]
              refine seqI_take (v := .bool true) rfl (fun w9 hS9 => by obtain ⟨s0, s1, s2⟩ := hS9; go_simp) (fun _ _ _ h => h) ?_
              simp only [Act.put, List.setIfInBounds_toArray, List.set_cons_zero, List.set_cons_succ]
              refine seqI_take (v := .bool true) rfl (fun w9 hS9 => by obtain ⟨s0, s1, s2⟩ := hS9; go_simp) (fun _ _ _ h => h) ?_
              simp only [Act.put, List.setIfInBounds_toArray, List.set_cons_zero, List.set_cons_succ]
              refine seqI_take (v := .pointer (some ⟨w.heap.size + 1, 0, none⟩)) rfl (fun w9 hS9 => by obtain ⟨s0, s1, s2⟩ := hS9; go_simp) (fun _ _ _ h => h) ?_
              simp only [Act.put, List.setIfInBounds_toArray, List.set_cons_zero, List.set_cons_succ]
              refine seqI_take (v := .string ⟨pre.toArray⟩) rfl (fun w9 hS9 => by obtain ⟨s0, s1, s2⟩ := hS9; go_simp) (fun _ _ _ h => h) ?_
              simp only [Act.put, List.setIfInBounds_toArray, List.set_cons_zero, List.set_cons_succ]
              refine seqI_take (v := .pointer (some ⟨w.heap.size, 3, none⟩)) rfl (fun w9 hS9 => by obtain ⟨s0, s1, s2⟩ := hS9; go_simp) (fun _ _ _ h => h) ?_
              simp only [Act.put, List.setIfInBounds_toArray, List.set_cons_zero, List.set_cons_succ]
              refine seqI_take (v := .slice (some ⟨b, off, none⟩) an ac) rfl (fun w9 hS9 => by obtain ⟨s0, s1, s2⟩ := hS9; go_simp) (fun _ _ _ h => h) ?_
              simp only [Act.put, List.setIfInBounds_toArray, List.set_cons_zero, List.set_cons_succ]
              refine seqI_take (v := .int .i64 i) rfl (fun w9 hS9 => by obtain ⟨s0, s1, s2⟩ := hS9; go_simp) (fun _ _ _ h => h) ?_
              simp only [Act.put, List.setIfInBounds_toArray, List.set_cons_zero, List.set_cons_succ]
              refine seqI_take (v := .int .i64 ((i : Int) - 1)) rfl (fun w9 hS9 => by obtain ⟨s0, s1, s2⟩ := hS9; go_simp) (fun _ _ _ h => h) ?_
              simp only [Act.put, List.setIfInBounds_toArray, List.set_cons_zero, List.set_cons_succ]
              refine seqI_take (v := .pointer (some ⟨b, off + (i - 1) * 3, none⟩)) rfl (fun w9 hS9 => by obtain ⟨s0, s1, s2⟩ := hS9; (go_simp; intro h9; exfalso; omega)) (fun _ _ _ h => h) ?_
              simp only [Act.put, List.setIfInBounds_toArray, List.set_cons_zero, List.set_cons_succ]
              refine seqI_take (v := .pointer (some ⟨b, off + (i - 1) * 3, none⟩)) rfl (fun w9 hS9 => by obtain ⟨s0, s1, s2⟩ := hS9; go_simp) (fun _ _ _ h => h) ?_
              simp only [Act.put, List.setIfInBounds_toArray, List.set_cons_zero, List.set_cons_succ]
              refine seqI_take (v := .string ⟨p.pre.toArray⟩) rfl (fun w9 hS9 => by obtain ⟨s0, s1, s2⟩ := hS9; go_simp) (fun _ _ _ h => h) ?_
              simp only [Act.put, List.setIfInBounds_toArray, List.set_cons_zero, List.set_cons_succ]
              refine seqI_take (v := .bool (leS pre p.pre)) rfl (fun w9 hS9 => by obtain ⟨s0, s1, s2⟩ := hS9; (go_simp; rfl)) (fun _ _ _ h => h) ?_
              simp only [Act.put, List.setIfInBounds_toArray, List.set_cons_zero, List.set_cons_succ]
              refine seqI_take (v := .bool (leS pre p.pre)) rfl (fun w9 hS9 => by obtain ⟨s0, s1, s2⟩ := hS9; go_simp) (fun _ _ _ h => h) ?_
              simp only [Act.put, List.setIfInBounds_toArray, List.set_cons_zero, List.set_cons_succ]
              refine seqI_take (v := .bool (leS pre p.pre)) rfl (fun w9 hS9 => by obtain ⟨s0, s1, s2⟩ := hS9; go_simp) (fun _ _ _ h => h) ?_
              simp only [Act.put, List.setIfInBounds_toArray, List.set_cons_zero, List.set_cons_succ]
              refine seqI_nil ?_
              go_wp2_with fail
              go_meet
              exact ⟨by rw [hk2]; rfl, rfl⟩
        case rest =>
          obtain ⟨rfl, HM⟩ := hcut
          obtain ⟨W, rfl⟩ : ∃ W : World, W = wc := ⟨_, rfl⟩
          have hW := HM.out
          have HBN : Hid (Below w.heap.size w W) := by show Below _ _ _; rw [hW]; exact ext_drew HB2.out
          have D0' : W.cell? ⟨w.heap.size, 0, none⟩ = some (.string ⟨code.toArray⟩) := by rw [hW]; exact D0
          have D1' : W.cell? ⟨w.heap.size, 1, none⟩ = some (.string ⟨abroad.toArray⟩) := by rw [hW]; exact D1
          have D3' : W.cell? ⟨w.heap.size, 3, none⟩ = some (.slice (some ⟨b, off, none⟩) an ac) := by rw [hW]; exact D3
          have E0' : W.cell? ⟨w.heap.size + 1, 0, none⟩ = some (.string ⟨pre.toArray⟩) := by rw [hW]; exact E0
          have E1' : W.cell? ⟨w.heap.size + 1, 1, none⟩ = some (.int .i64 low) := by rw [hW]; exact E1
          have E2' : W.cell? ⟨w.heap.size + 1, 2, none⟩ = some (.int .i64 high) := by rw [hW]; exact E2
          have HPW : Hid (0 < i → W.cell? ⟨b, off + (i - 1) * 3, none⟩ = some (.string ⟨p.pre.toArray⟩)) := fun h9 => by rw [hW]; exact HPV2.out h9
          clear hW HM D0 D1 D3 E0 E1 E2
          as_aux_lemma =>
            generalize (decide (0 < i) && leS pre p.pre) = g4 at HD3 ⊢
            cases g4
            · have HD5 : Hid (R = if ((decide (0 < i) && Lib.hasPrefix pre p.pre) || (Lib.hasPrefix (trunk ++ pre) abroad || Lib.hasPrefix abroad (trunk ++ pre))) = true then 13 else if areaBad code pre low high = true then 1 else 0) := HD3.out
              as_aux_lemma =>
                go_upto_region 6 with (fail)
                go_cut [41] (fun s41 wx => s41 = .bool (decide (0 < i) && Lib.hasPrefix pre p.pre) ∧ Hid (wx = W.drew))
                case first =>
                  by_cases hi0 : i = 0
                  · have hk1 : decide (0 < i) = false := decide_eq_false (by omega)
                    clear hi0
                    as_aux_lemma =>
                      refine region_seqI (S := (fun _ => True)) [(true, 0), (true, 1), (true, 2), (true, 3), (true, 4), (true, 5), (true, 6), (true, 7), (true, 8), (true, 9), (true, 10), (true, 11), (true, 12), (true, 13), (true, 14)] (by kernel_rfl) (by kernel_rfl) rfl (by kernel_rfl) trivial ?_
                      simp only [seqOps, List.getD_cons_zero, List.getD_cons_succ]
                      refine seqI_take (v := .int .i64 i) rfl (fun w9 hS9 => by go_simp) (fun _ _ _ h => h) ?_
                      simp only [Act.put, List.setIfInBounds_toArray, List.set_cons_zero, List.set_cons_succ]
                      refine seqI_take (v := .bool false) rfl (fun w9 hS9 => by go_simp) (fun _ _ _ h => h) ?_
                      simp only [Act.put, List.setIfInBounds_toArray, List.set_cons_zero, List.set_cons_succ]
                      refine seqI_take (v := .bool false) rfl (fun w9 hS9 => by go_simp) (fun _ _ _ h => h) ?_
                      simp only [Act.put, List.setIfInBounds_toArray, List.set_cons_zero, List.set_cons_succ]
                      refine seqI_skip rfl (fun _ _ _ h => h) ?_
                      simp only [Act.put, List.setIfInBounds_toArray, List.set_cons_zero, List.set_cons_succ]
                      refine seqI_skip rfl (fun _ _ _ h => h) ?_
                      simp only [Act.put, List.setIfInBounds_toArray, List.set_cons_zero, List.set_cons_succ]
                      refine seqI_skip rfl (fun _ _ _ h => h) ?_
                      simp only [Act.put, List.setIfInBounds_toArray, List.set_cons_zero, List.set_cons_succ]
                      refine seqI_skip rfl (fun _ _ _ h => h) ?_
                      simp only [Act.put, List.setIfInBounds_toArray, List.set_cons_zero, List.set_cons_succ]
                      refine seqI_skip rfl (fun _ _ _ h => h) ?_
                      simp only [Act.put, List.setIfInBounds_toArray, List.set_cons_zero, List.set_cons_succ]
                      refine seqI_skip rfl (fun _ _ _ h => h) ?_
                      simp only [Act.put, List.setIfInBounds_toArray, List.set_cons_zero, List.set_cons_succ]
                      refine seqI_skip rfl (fun _ _ _ h => h) ?_
                      simp only [Act.put, List.setIfInBounds_toArray, List.set_cons_zero, List.set_cons_succ]
                      refine seqI_skip rfl (fun _ _ _ h => h) ?_
                      simp only [Act.put, List.setIfInBounds_toArray, List.set_cons_zero, List.set_cons_succ]
                      refine seqI_skip rfl (fun _ _ _ h => h) ?_
                      simp only [Act.put, List.setIfInBounds_toArray, List.set_cons_zero, List.set_cons_succ]
                      refine seqI_skip rfl (fun _ _ _ h => h) ?_
                      simp only [Act.put, List.setIfInBounds_toArray, List.set_cons_zero, List.set_cons_succ]
                      refine seqI_take (v := .bool false) rfl (fun w9 hS9 => by go_simp) (fun _ _ _ h => h) ?_
                      simp only [Act.put, List.setIfInBounds_toArray, List.set_cons_zero, List.set_cons_succ]
                      refine seqI_take (v := .bool false) rfl (fun w9 hS9 => by go_simp) (fun _ _ _ h => h) ?_
                      simp only [Act.put, List.setIfInBounds_toArray, List.set_cons_zero, List.set_cons_succ]
                      refine seqI_nil ?_
                      go_wp2_with fail
                      go_meet
                      exact ⟨by rw [hk1]; rfl, rfl⟩
                  · have hk1 : 0 < i := by omega
                    have hk2 : decide (0 < i) = true := decide_eq_true hk1
                    have p0 := HPW.out hk1
                    have kq : ((i : Int) - 1).toNat = i - 1 := by omega
                    have kr : 0 ≤ (i : Int) - 1 := by omega
                    have ks : (i : Int) - 1 < an := by omega
                    have kw : IntKind.i64.wrap ((i : Int) - 1) = (i : Int) - 1 := IntWalk.i64_in _ (by omega)
                    as_aux_lemma =>
                      refine region_seqI (S := (fun (w9 : World) => w9.cell? ⟨w.heap.size, 3, none⟩ = some (.slice (some ⟨b, off, none⟩) an ac) ∧ w9.cell? ⟨w.heap.size + 1, 0, none⟩ = some (.string ⟨pre.toArray⟩) ∧ w9.cell? ⟨b, off + (i - 1) * 3, none⟩ = some (.string ⟨p.pre.toArray⟩))) [(true, 0), (true, 1), (true, 2), (true, 3), (true, 4), (true, 5), (true, 6), (true, 7), (true, 8), (true, 9), (true, 10), (true, 11), (false, 12), (true, 13), (true, 14)] (by kernel_rfl) (by kernel_rfl) rfl (by kernel_rfl) ⟨D3', E0', p0⟩ ?_
                      simp only [seqOps, List.getD_cons_zero, List.getD_cons_succ]
                      refine seqI_take (v := .int .i64 i) rfl (fun w9 hS9 => by obtain ⟨s0, s1, s2⟩ := hS9; go_simp) (fun _ _ _ h => h) ?_
                      simp only [Act.put, List.setIfInBounds_toArray, List.set_cons_zero, List.set_cons_succ]
                      refine seqI_take (v := .bool true) rfl (fun w9 hS9 => by obtain ⟨s0, s1, s2⟩ := hS9; go_simp) (fun _ _ _ h => h) ?_
                      simp only [Act.put, List.setIfInBounds_toArray, List.set_cons_zero, List.set_cons_succ]
                      refine seqI_take (v := .bool true) rfl (fun w9 hS9 => by obtain ⟨s0, s1, s2⟩ := hS9; go_simp) (fun _ _ _ h => h) ?_
                      simp only [Act.put, List.setIfInBounds_toArray, List.set_cons_zero, List.set_cons_succ]
                      refine seqI_take (v := .pointer (some ⟨w.heap.size + 1, 0, none⟩)) rfl (fun w9 hS9 => by obtain ⟨s0, s1, s2⟩ := hS9; go_simp) (fun _ _ _ h => h) ?_
                      simp only [Act.put, List.setIfInBounds_toArray, List.set_cons_zero, List.set_cons_succ]
                      refine seqI_take (v := .string ⟨pre.toArray⟩) rfl (fun w9 hS9 => by obtain ⟨s0, s1, s2⟩ := hS9; go_simp) (fun _ _ _ h => h) ?_
                      simp only [Act.put, List.setIfInBounds_toArray, List.set_cons_zero, List.set_cons_succ]
                      refine seqI_take (v := .pointer (some ⟨w.heap.size, 3, none⟩)) rfl (fun w9 hS9 => by obtain ⟨s0, s1, s2⟩ := hS9; go_simp) (fun _ _ _ h => h) ?_
                      simp only [Act.put, List.setIfInBounds_toArray, List.set_cons_zero, List.set_cons_succ]
                      refine seqI_take (v := .slice (some ⟨b, off, none⟩) an ac) rfl (fun w9 hS9 => by obtain ⟨s0, s1, s2⟩ := hS9; go_simp) (fun _ _ _ h => h) ?_
                      simp only [Act.put, List.setIfInBounds_toArray, List.set_cons_zero, List.set_cons_succ]
                      refine seqI_take (v := .int .i64 i) rfl (fun w9 hS9 => by obtain ⟨s0, s1, s2⟩ := hS9; go_simp) (fun _ _ _ h => h) ?_
                      simp only [Act.put, List.setIfInBounds_toArray, List.set_cons_zero, List.set_cons_succ]
                      refine seqI_take (v := .int .i64 ((i : Int) - 1)) rfl (fun w9 hS9 => by obtain ⟨s0, s1, s2⟩ := hS9; go_simp) (fun _ _ _ h => h) ?_
                      simp only [Act.put, List.setIfInBounds_toArray, List.set_cons_zero, List.set_cons_succ]
                      refine seqI_take (v := .pointer (some ⟨b, off + (i - 1) * 3, none⟩)) rfl (fun w9 hS9 => by obtain ⟨s0, s1, s2⟩ := hS9; (go_simp; intro h9; exfalso; omega)) (fun _ _ _ h => h) ?_
                      simp only [Act.put, List.setIfInBounds_toArray, List.set_cons_zero, List.set_cons_succ]
                      refine seqI_take (v := .pointer (some ⟨b, off + (i - 1) * 3, none⟩)) rfl (fun w9 hS9 => by obtain ⟨s0, s1, s2⟩ := hS9; go_simp) (fun _ _ _ h => h) ?_
                      simp only [Act.put, List.setIfInBounds_toArray, List.set_cons_zero, List.set_cons_succ]
                      refine seqI_take (v := .string ⟨p.pre.toArray⟩) rfl (fun w9 hS9 => by obtain ⟨s0, s1, s2⟩ := hS9; go_simp) (fun _ _ _ h => h) ?_
                      simp only [Act.put, List.setIfInBounds_toArray, List.set_cons_zero, List.set_cons_succ]
                      refine seqI_call 55 #[.string ⟨pre.toArray⟩, .string ⟨p.pre.toArray⟩] rfl (by go_simp) (hasPrefix_l pre p.pre _) ?_
                      rintro e w9 ⟨rfl, rfl⟩
                      refine ⟨_, rfl, ⟨D3', E0', p0⟩, ?_⟩
                      simp only [Act.put, List.setIfInBounds_toArray, List.set_cons_zero, List.set_cons_succ]
                      refine seqI_take (v := .bool (Lib.hasPrefix pre p.pre)) rfl (fun w9 hS9 => by obtain ⟨s0, s1, s2⟩ := hS9; go_simp) (fun _ _ _ h => h) ?_
                      simp only [Act.put, List.setIfInBounds_toArray, List.set_cons_zero, List.set_cons_succ]
                      refine seqI_take (v := .bool (Lib.hasPrefix pre p.pre)) rfl (fun w9 hS9 => by obtain ⟨s0, s1, s2⟩ := hS9; go_simp) (fun _ _ _ h => h) ?_
                      simp only [Act.put, List.setIfInBounds_toArray, List.set_cons_zero, List.set_cons_succ]
                      refine seqI_nil ?_
                      go_wp2_with fail
                      go_meet
                      exact ⟨by rw [hk2]; rfl, rfl⟩
                case rest =>
                  obtain ⟨rfl, HM⟩ := hcut
                  obtain ⟨W9, rfl⟩ : ∃ W9 : World, W9 = wc := ⟨_, rfl⟩
                  have hW := HM.out
                  have HB9 : Hid (Below w.heap.size w W9) := by show Below _ _ _; rw [hW]; exact ext_drew HBN.out
                  have D09 : W9.cell? ⟨w.heap.size, 0, none⟩ = some (.string ⟨code.toArray⟩) := by rw [hW]; exact D0'
                  have D19 : W9.cell? ⟨w.heap.size, 1, none⟩ = some (.string ⟨abroad.toArray⟩) := by rw [hW]; exact D1'
                  have E09 : W9.cell? ⟨w.heap.size + 1, 0, none⟩ = some (.string ⟨pre.toArray⟩) := by rw [hW]; exact E0'
                  have E19 : W9.cell? ⟨w.heap.size + 1, 1, none⟩ = some (.int .i64 low) := by rw [hW]; exact E1'
                  have E29 : W9.cell? ⟨w.heap.size + 1, 2, none⟩ = some (.int .i64 high) := by rw [hW]; exact E2'
                  clear hW HM D0' D1' D3' E0' E1' E2'
                  as_aux_lemma =>
                    generalize (decide (0 < i) && Lib.hasPrefix pre p.pre) = g5 at HD5 ⊢
                    cases g5
                    · have HT : Hid (R = if (Lib.hasPrefix (trunk ++ pre) abroad || Lib.hasPrefix abroad (trunk ++ pre)) = true then 13 else if areaBad code pre low high = true then 1 else 0) := HD5.out
                      clear HPW HD5 HD3
                      as_aux_lemma =>
                        go_wp2_with fail
                        refine (hasPrefix_l (trunk ++ pre) abroad _).mono ?_
                        rintro e w' ⟨rfl, rfl⟩
                        generalize Lib.hasPrefix (trunk ++ pre) abroad = g2 at HT ⊢
                        as_aux_lemma =>
                          cases g2
                          · go_wp2_with fail
                            refine (hasPrefix_l abroad (trunk ++ pre) _).mono ?_
                            rintro e w' ⟨rfl, rfl⟩
                            generalize Lib.hasPrefix abroad (trunk ++ pre) = g3 at HT ⊢
                            as_aux_lemma =>
                              cases g3
                              · have HT2 : Hid (R = if areaBad code pre low high = true then 1 else 0) := HT.out
                                by_cases k1 : low ≤ (pre.length : Int)
                                · have HF : Hid (R = 1) := by show _ = _; rw [HT2.out, if_pos]; unfold areaBad; rw [decide_eq_true k1]; rfl
                                  as_aux_lemma =>
                                    go_wp2_with fail
                                    go_ret
                                    exact ⟨by rw [HF.out]; rfl, HB9.out⟩
                                · have k1' : decide (low ≤ (pre.length : Int)) = false := decide_eq_false k1
                                  by_cases k2 : high < low
                                  · have HF : Hid (R = 1) := by show _ = _; rw [HT2.out, if_pos]; unfold areaBad; rw [k1', decide_eq_true k2]; rfl
                                    as_aux_lemma =>
                                      go_wp2_with fail
                                      go_ret
                                      exact ⟨by rw [HF.out]; rfl, HB9.out⟩
                                  · have k2' : decide (high < low) = false := decide_eq_false k2
                                    by_cases k3 : 15 - (code.length : Int) < high
                                    · have HF : Hid (R = 1) := by show _ = _; rw [HT2.out, if_pos]; unfold areaBad; rw [k1', k2', decide_eq_true k3]; rfl
                                      as_aux_lemma =>
                                        go_wp2_with fail
                                        go_ret
                                        exact ⟨by rw [HF.out]; rfl, HB9.out⟩
                                    · have k3' : decide (15 - (code.length : Int) < high) = false := decide_eq_false k3
                                      by_cases k4 : low < 4 - (code.length : Int)
                                      · have HF : Hid (R = 1) := by show _ = _; rw [HT2.out, if_pos]; unfold areaBad; rw [k1', k2', k3', decide_eq_true k4]; rfl
                                        as_aux_lemma =>
                                          go_wp2_with fail
                                          go_ret
                                          exact ⟨by rw [HF.out]; rfl, HB9.out⟩
                                      · have k4' : decide (low < 4 - (code.length : Int)) = false := decide_eq_false k4
                                        have HF : Hid (R = 0) := by show _ = _; rw [HT2.out, if_neg]; unfold areaBad; rw [k1', k2', k3', k4']; simp
                                        as_aux_lemma =>
                                          go_wp2_with fail
                                          go_ret
                                          exact ⟨by rw [HF.out]; rfl, HB9.out⟩
                              · have HF : Hid (R = 13) := HT.out
                                as_aux_lemma =>
                                  go_wp2_with fail
                                  go_ret
                                  exact ⟨by rw [HF.out]; rfl, HB9.out⟩
                          · have HF : Hid (R = 13) := HT.out
                            as_aux_lemma =>
                              go_wp2_with fail
                              go_ret
                              exact ⟨by rw [HF.out]; rfl, HB9.out⟩
                    · have HF : Hid (R = 13) := HD5.out
                      as_aux_lemma =>
                        go_wp2_with fail
                        go_ret
                        exact ⟨by rw [HF.out]; rfl, HB9.out⟩
            · have HF : Hid (R = 7) := HD3.out
              as_aux_lemma =>
                go_wp2_with fail
                go_ret
                exact ⟨by rw [HF.out]; rfl, HBN.out⟩
end Go.Proofs.YthajppcmmmkfcaaGreatDoor

namespace Go.Proofs.YthajppcmmmkfcaaGreatDoor
open Go.RowKit

def belowI (x n : Int) : Int := if n < 1 then 0 else if x.tmod n < 0 then x.tmod n + n else x.tmod n

theorem belowI_range (x n : Int) (h : 1 ≤ n) : 0 ≤ belowI x n ∧ belowI x n ≤ n - 1 := by
  unfold belowI
  rw [if_neg (by omega)]
  have h1 := Int.tmod_lt_of_pos x (show 0 < n by omega)
  have h2 : -n < x.tmod n := Int.lt_tmod_of_pos x (by omega)
  split <;> omega

theorem below_any (x n : Int) (w : World) (h : 1 ≤ n) (hn : n ≤ 9223372036854775807) :
    Calls Tryz.prog 82 #[.int .i64 x, .int .i64 n] w fun e w' => e = .returned (.int .i64 (belowI x n)) ∧ w = w' := by
  have h1 := Int.tmod_lt_of_pos x (show 0 < n by omega)
  have h2 : -n < x.tmod n := Int.lt_tmod_of_pos x (by omega)
  have hlt : ¬ n < 1 := by omega
  by_cases hx : x.tmod n < 0
  · have hb : Hid (belowI x n = x.tmod n + n) := Lib.hid (by unfold belowI; rw [if_neg hlt, if_pos hx])
    go_enter Tryz.func82, Tryz.ntmps82
    go_wp2
    go_ret
    exact ⟨ret_int hb.out.symm, rfl⟩
  · have hb : Hid (belowI x n = x.tmod n) := Lib.hid (by unfold belowI; rw [if_neg hlt, if_neg hx])
    go_enter Tryz.func82, Tryz.ntmps82
    go_wp2
    go_ret
    exact ⟨ret_int hb.out.symm, rfl⟩

theorem stream_set {w w' : World} {S k : Nat} {a : Option Addr} {len cap : Nat} {zs : List Int} {n : Nat} (hn : n ≤ k) (hs : S < w.heap.size)
    (h0 : w.cell? ⟨S, 0, none⟩ = some (.slice a len cap)) (h1 : w.cell? ⟨S, 1, none⟩ = some (.int .i64 n)) (hf : w.frozen? ⟨S, 1, none⟩ = false) (hr : IntRow w S a len cap zs)
    (v : Value) (hv : v = .int .i64 ((n : Int) + 1)) (m : Nat) (hw : w' = (w.setCell ⟨S, 1, none⟩ v).drewN m) : StreamOk w' S (k + 1) ∧ Keeps S w w' := by
  subst hv
  have kp : Keeps S w (w.setCell ⟨S, 1, none⟩ (.int .i64 ((n : Int) + 1))) := (Keeps.refl S w).setCell rfl _
  have kp' : Keeps S w w' := by rw [hw]; exact kp.drewN m
  refine ⟨⟨a, len, cap, zs, n + 1, by omega, Nat.lt_of_lt_of_le hs kp'.size, ?_, ?_, ?_, hr.kept (kp'.below (Nat.le_of_lt hs) (Nat.le_refl _))⟩, kp'⟩
  · rw [hw]; simpa using (World.cell?_setCell_other _ _ _ _ (by simp)).trans h0
  · rw [hw]; simpa using World.cell?_setCell_same _ _ _ h1
  · rw [hw]; simpa using hf

set_option maxHeartbeats 1000000 in
theorem next_any (S k : Nat) (n : Int) (w : World) (h : StreamOk w S k) (hk : k ≤ 1000000000) (h1 : 1 ≤ n) (h2 : n ≤ 9223372036854775807) :
    Calls Tryz.prog 40 #[.pointer (some ⟨S, 0, none⟩), .int .i64 n] w (NextPost S (k + 1) 0 (n - 1) w) := by
  obtain ⟨a, len, cap, zs, m, hm, hs, c0, c1, cf, hr⟩ := h
  have fin := fun (x : Int) (w' : World) (v : Value) (hv : v = .int .i64 ((m : Int) + 1)) (j : Nat) (hw : w' = (w.setCell ⟨S, 1, none⟩ v).drewN j) =>
    show NextPost S (k + 1) 0 (n - 1) w (.returned (.int .i64 (belowI x n))) w' from
    ⟨_, rfl, (belowI_range x n h1).1, (belowI_range x n h1).2, stream_set hm hs c0 c1 cf hr v hv j hw⟩
  have Fin := Lib.hid fin
  clear fin
  rcases hr with hl | ⟨b, off, ha, hb, hlc, hcm, hz, hc⟩
  · subst hl
    go_enter Tryz.func40, Tryz.ntmps40
    go_wp2_with (go_at_call 82; refine (below_any _ _ _ h1 h2).mono ?_; rintro e w' ⟨rfl, rfl⟩)
    go_ret
    exact Fin.out _ _ _ rfl 0 rfl
  · subst ha
    unfold maxLen at hcm
    by_cases hl : len = 0
    · subst hl
      go_enter Tryz.func40, Tryz.ntmps40
      go_wp2_with (go_at_call 82; refine (below_any _ _ _ h1 h2).mono ?_; rintro e w' ⟨rfl, rfl⟩)
      go_ret
      exact Fin.out _ _ _ rfl 0 rfl
    · have hl0 : ((len : Int) == 0) = false := by simp; omega
      have hmod : m % len < len := Nat.mod_lt _ (by omega)
      have hcell := hc (m % len) hmod
      have hbm : b ≠ S := by omega
      clear hc
      go_enter Tryz.func40, Tryz.ntmps40
      go_wp2_with fail
      go_quiet (fail)
      go_wp2_with fail
      go_quiet (fail)
      go_wp2_with fail
      refine (below_any _ _ _ (by omega) (by omega)).mono ?_
      rintro e w' ⟨rfl, rfl⟩
      go_wp2_with fail
      refine (below_any _ _ _ h1 h2).mono ?_
      rintro e w' ⟨rfl, rfl⟩
      go_wp2_with fail
      go_ret
      exact Fin.out _ _ _ rfl _ rfl

/-- A statement's end: nothing that was there before has turned. -/
theorem law_end {w w9 : World} {o : Obj} (hk : Keeps w.heap.size (w.alloc o) w9) : Below w.heap.size w w9 :=
  ((Below.refl _ w).alloc (Nat.le_refl _) o).trans (hk.below (B := w.heap.size) (by simp) (Nat.le_refl _))

/-- The slice that came in. -/
def ArgRow (w : World) (a : Option Addr) (len cap : Nat) (zs : List Int) : Prop :=
  len = 0 ∨ ∃ b off, a = some ⟨b, off, none⟩ ∧ b < w.heap.size ∧ len ≤ cap ∧ cap ≤ maxLen ∧ len ≤ zs.length ∧ ∀ i, i < len → w.cell? ⟨b, off + i, none⟩ = some (.int .i64 (zs.getD i 0))

theorem argRow_of {w : World} {x : Addr} {len cap : Nat} {zs : List Int} (h1 : len ≤ cap) (h2 : cap ≤ maxLen) (h3 : zs.length = cap) (hc : ∀ i, i < zs.length → w.cell? (x.add i) = some (.int .i64 (zs.getD i 0))) : ArgRow w (some x) len cap zs := by
  by_cases h0 : len = 0
  · exact Or.inl h0
  · obtain ⟨b, off, spot⟩ := x
    have hc0 := hc 0 (by omega)
    have hspot : spot = none := by simpa [Addr.add] using World.cell?_spot hc0
    subst hspot
    refine Or.inr ⟨b, off, rfl, ?_, h1, h2, by omega, fun i hi => ?_⟩
    · rcases Nat.lt_or_ge b w.heap.size with h | h
      · exact h
      · simp [World.cell?, Addr.add, Array.getElem?_eq_none h] at hc0
    · have := hc i (by omega)
      have hp : (⟨b, off, none⟩ : Addr).add i = ⟨b, off + i, none⟩ := by unfold Addr.add; split <;> simp_all
      rwa [hp] at this

/-- The stream that a statement begins with. -/
theorem stream_start {w : World} {a : Option Addr} {len cap : Nat} {zs : List Int} (h : len = 0 ∨ ∃ b off, a = some ⟨b, off, none⟩ ∧ b < w.heap.size ∧ len ≤ cap ∧ cap ≤ maxLen ∧ len ≤ zs.length ∧ ∀ i, i < len → w.cell? ⟨b, off + i, none⟩ = some (.int .i64 (zs.getD i 0))) :
    StreamOk (w.alloc (.cells #[.slice a len cap, .int .i64 0] 25)) w.heap.size 0 := by
  refine ⟨a, len, cap, zs, 0, Nat.le_refl _, by simp, by simp, by simp, by simp, ?_⟩
  refine h.imp id ?_
  rintro ⟨b, off, ha, hb, h1, h2, h3, hc⟩
  refine ⟨b, off, ha, hb, h1, h2, h3, fun i hi => ?_⟩
  rw [World.cell?_alloc_lt _ _ _ (by show b < _; omega)]
  exact hc i hi

theorem range_any (S k : Nat) (lo hi : Int) (w : World) (h : StreamOk w S k) (hk : k ≤ 1000000000) (h1 : lo ≤ hi) (h2 : -4611686018427387904 ≤ lo) (h3 : hi ≤ 4611686018427387000) :
    Calls Tryz.prog 45 #[.pointer (some ⟨S, 0, none⟩), .int .i64 lo, .int .i64 hi] w (NextPost S (k + 1) lo hi w) := by
  have hlt : ¬ hi < lo := by omega
  go_enter Tryz.func45, Tryz.ntmps45
  go_wp2_with fail
  refine (next_any S k _ _ h hk (by omega) (by omega)).mono ?_
  rintro e w' ⟨r, rfl, r0, r1, hst, hkp⟩
  go_wp2_with fail
  go_ret
  exact ⟨lo + r, rfl, by omega, by omega, hst, hkp⟩

def FlipPost (S k : Nat) (w : World) (e : Ending) (w' : World) : Prop :=
  ∃ r : Bool, e = .returned (.bool r) ∧ StreamOk w' S k ∧ Keeps S w w'

theorem flip_any (S k : Nat) (n : Int) (w : World) (h : StreamOk w S k) (hk : k ≤ 1000000000) (h1 : 1 ≤ n) (h2 : n ≤ 9223372036854775807) :
    Calls Tryz.prog 39 #[.pointer (some ⟨S, 0, none⟩), .int .i64 n] w (FlipPost S (k + 1) w) := by
  go_enter Tryz.func39, Tryz.ntmps39
  go_wp2_with fail
  refine (next_any S k _ _ h hk h1 h2).mono ?_
  rintro e w' ⟨r, rfl, r0, r1, hst, hkp⟩
  go_wp2_with fail
  go_ret
  exact ⟨_, rfl, hst, hkp⟩
end Go.Proofs.YthajppcmmmkfcaaGreatDoor

namespace Go.Proofs.YthajppcmmmkfcaaGreatDoor
open Go.RowKit
set_option linter.unusedVariables false

/-- One of some values is handed out. -/
def PickPost (S k : Nat) (P : Int → Prop) (w : World) (e : Ending) (w' : World) : Prop :=
  ∃ r : Int, e = .returned (.int .i64 r) ∧ P r ∧ StreamOk w' S k ∧ Keeps S w w'
def SomePost (S k : Nat) (P : List UInt8 → Prop) (w : World) (e : Ending) (w' : World) : Prop :=
  ∃ r : List UInt8, e = .returned (.string ⟨r.toArray⟩) ∧ P r ∧ StreamOk w' S k ∧ Keeps S w w'

theorem pick_any (S k b n c : Nat) (vals : List Int) (P : Int → Prop) (w : World) (h : StreamOk w S k) (hk : k ≤ 1000000000) (hb : b < w.heap.size) (hS : b ≠ S) (h1 : 1 ≤ n) (h2 : n ≤ 1000) (hc : ∀ i, i < n → w.cell? ⟨b, i, none⟩ = some (.int .i64 (vals.getD i 0))) (hP : ∀ i, i < n → P (vals.getD i 0)) :
    Calls Tryz.prog 41 #[.pointer (some ⟨S, 0, none⟩), .slice (some ⟨b, 0, none⟩) n c] w (PickPost S (k + 1) P w) := by
  have Hc := Lib.hid hc
  have HP := Lib.hid hP
  have HS := Lib.hid h
  clear hc hP h
  go_enter Tryz.func41, Tryz.ntmps41
  go_wp2_with fail
  refine (next_any S k _ _ HS.out hk (by omega) (by omega)).mono ?_
  rintro e w' ⟨r, rfl, r0, r1, hst, hkp⟩
  obtain ⟨r, rfl⟩ := Int.eq_ofNat_of_zero_le r0
  have hr : r < n := by omega
  have c0 := (hkp.cell (p := ⟨b, r, none⟩) hb hS).trans (Hc.out r hr)
  have HP' := Lib.hid (HP.out r hr)
  have HK := Lib.hid hkp
  have HS' := Lib.hid hst
  clear hkp hst
  generalize vals.getD r 0 = x at c0 HP'
  go_wp2_with fail
  go_ret
  exact ⟨x, rfl, HP'.out, HS'.out, HK.out⟩

theorem some_any (S k b n c : Nat) (vals : List (List UInt8)) (P : List UInt8 → Prop) (w : World) (h : StreamOk w S k) (hk : k ≤ 1000000000) (hb : b < w.heap.size) (hS : b ≠ S) (h1 : 1 ≤ n) (h2 : n ≤ 1000) (hc : ∀ i, i < n → w.cell? ⟨b, i, none⟩ = some (.string ⟨(vals.getD i []).toArray⟩)) (hP : ∀ i, i < n → P (vals.getD i [])) :
    Calls Tryz.prog 33 #[.pointer (some ⟨S, 0, none⟩), .slice (some ⟨b, 0, none⟩) n c] w (SomePost S (k + 1) P w) := by
  have Hc := Lib.hid hc
  have HP := Lib.hid hP
  have HS := Lib.hid h
  clear hc hP h
  go_enter Tryz.func33, Tryz.ntmps33
  go_wp2_with fail
  refine (next_any S k _ _ HS.out hk (by omega) (by omega)).mono ?_
  rintro e w' ⟨r, rfl, r0, r1, hst, hkp⟩
  obtain ⟨r, rfl⟩ := Int.eq_ofNat_of_zero_le r0
  have hr : r < n := by omega
  have c0 := (hkp.cell (p := ⟨b, r, none⟩) hb hS).trans (Hc.out r hr)
  have HP' := Lib.hid (HP.out r hr)
  have HK := Lib.hid hkp
  have HS' := Lib.hid hst
  clear hkp hst
  generalize vals.getD r [] = x at c0 HP'
  go_wp2_with fail
  go_ret
  exact ⟨x, rfl, HP'.out, HS'.out, HK.out⟩

/-- Three, four, five values in a new block. -/
theorem cells3 {w : World} {b : Nat} {x0 x1 x2 : Int} (h0 : w.cell? ⟨b, 0, none⟩ = some (.int .i64 x0)) (h1 : w.cell? ⟨b, 1, none⟩ = some (.int .i64 x1)) (h2 : w.cell? ⟨b, 2, none⟩ = some (.int .i64 x2)) : ∀ i, i < 3 → w.cell? ⟨b, i, none⟩ = some (.int .i64 (([x0, x1, x2] : List Int).getD i 0))
  | 0, _ => h0
  | 1, _ => h1
  | 2, _ => h2
theorem cells4 {w : World} {b : Nat} {x0 x1 x2 x3 : Int} (h0 : w.cell? ⟨b, 0, none⟩ = some (.int .i64 x0)) (h1 : w.cell? ⟨b, 1, none⟩ = some (.int .i64 x1)) (h2 : w.cell? ⟨b, 2, none⟩ = some (.int .i64 x2)) (h3 : w.cell? ⟨b, 3, none⟩ = some (.int .i64 x3)) : ∀ i, i < 4 → w.cell? ⟨b, i, none⟩ = some (.int .i64 (([x0, x1, x2, x3] : List Int).getD i 0))
  | 0, _ => h0
  | 1, _ => h1
  | 2, _ => h2
  | 3, _ => h3
theorem cells5 {w : World} {b : Nat} {x0 x1 x2 x3 x4 : Int} (h0 : w.cell? ⟨b, 0, none⟩ = some (.int .i64 x0)) (h1 : w.cell? ⟨b, 1, none⟩ = some (.int .i64 x1)) (h2 : w.cell? ⟨b, 2, none⟩ = some (.int .i64 x2)) (h3 : w.cell? ⟨b, 3, none⟩ = some (.int .i64 x3)) (h4 : w.cell? ⟨b, 4, none⟩ = some (.int .i64 x4)) : ∀ i, i < 5 → w.cell? ⟨b, i, none⟩ = some (.int .i64 (([x0, x1, x2, x3, x4] : List Int).getD i 0))
  | 0, _ => h0
  | 1, _ => h1
  | 2, _ => h2
  | 3, _ => h3
  | 4, _ => h4

/-- Pick of three, four or five numbers that are written out. -/
theorem pick3 (S k b : Nat) (x0 x1 x2 : Int) (P : Int → Prop) (w : World) (h : StreamOk w S k) (hk : k ≤ 1000000000) (hb : b < w.heap.size) (hS : b ≠ S) (h0 : w.cell? ⟨b, 0, none⟩ = some (.int .i64 x0)) (h1 : w.cell? ⟨b, 1, none⟩ = some (.int .i64 x1)) (h2 : w.cell? ⟨b, 2, none⟩ = some (.int .i64 x2)) (p0 : P x0) (p1 : P x1) (p2 : P x2) :
    Calls Tryz.prog 41 #[.pointer (some ⟨S, 0, none⟩), .slice (some ⟨b, 0, none⟩) 3 3] w (PickPost S (k + 1) P w) :=
  pick_any S k b 3 3 [x0, x1, x2] P w h hk hb hS (by omega) (by omega) (cells3 h0 h1 h2) (fun i hi => by match i, hi with | 0, _ => exact p0 | 1, _ => exact p1 | 2, _ => exact p2)
theorem pick4 (S k b : Nat) (x0 x1 x2 x3 : Int) (P : Int → Prop) (w : World) (h : StreamOk w S k) (hk : k ≤ 1000000000) (hb : b < w.heap.size) (hS : b ≠ S) (h0 : w.cell? ⟨b, 0, none⟩ = some (.int .i64 x0)) (h1 : w.cell? ⟨b, 1, none⟩ = some (.int .i64 x1)) (h2 : w.cell? ⟨b, 2, none⟩ = some (.int .i64 x2)) (h3 : w.cell? ⟨b, 3, none⟩ = some (.int .i64 x3)) (p0 : P x0) (p1 : P x1) (p2 : P x2) (p3 : P x3) :
    Calls Tryz.prog 41 #[.pointer (some ⟨S, 0, none⟩), .slice (some ⟨b, 0, none⟩) 4 4] w (PickPost S (k + 1) P w) :=
  pick_any S k b 4 4 [x0, x1, x2, x3] P w h hk hb hS (by omega) (by omega) (cells4 h0 h1 h2 h3) (fun i hi => by match i, hi with | 0, _ => exact p0 | 1, _ => exact p1 | 2, _ => exact p2 | 3, _ => exact p3)
theorem pick5 (S k b : Nat) (x0 x1 x2 x3 x4 : Int) (P : Int → Prop) (w : World) (h : StreamOk w S k) (hk : k ≤ 1000000000) (hb : b < w.heap.size) (hS : b ≠ S) (h0 : w.cell? ⟨b, 0, none⟩ = some (.int .i64 x0)) (h1 : w.cell? ⟨b, 1, none⟩ = some (.int .i64 x1)) (h2 : w.cell? ⟨b, 2, none⟩ = some (.int .i64 x2)) (h3 : w.cell? ⟨b, 3, none⟩ = some (.int .i64 x3)) (h4 : w.cell? ⟨b, 4, none⟩ = some (.int .i64 x4)) (p0 : P x0) (p1 : P x1) (p2 : P x2) (p3 : P x3) (p4 : P x4) :
    Calls Tryz.prog 41 #[.pointer (some ⟨S, 0, none⟩), .slice (some ⟨b, 0, none⟩) 5 5] w (PickPost S (k + 1) P w) :=
  pick_any S k b 5 5 [x0, x1, x2, x3, x4] P w h hk hb hS (by omega) (by omega) (cells5 h0 h1 h2 h3 h4) (fun i hi => by match i, hi with | 0, _ => exact p0 | 1, _ => exact p1 | 2, _ => exact p2 | 3, _ => exact p3 | 4, _ => exact p4)
theorem some3 (S k b : Nat) (x0 x1 x2 : List UInt8) (P : List UInt8 → Prop) (w : World) (h : StreamOk w S k) (hk : k ≤ 1000000000) (hb : b < w.heap.size) (hS : b ≠ S) (h0 : w.cell? ⟨b, 0, none⟩ = some (.string ⟨x0.toArray⟩)) (h1 : w.cell? ⟨b, 1, none⟩ = some (.string ⟨x1.toArray⟩)) (h2 : w.cell? ⟨b, 2, none⟩ = some (.string ⟨x2.toArray⟩)) (p0 : P x0) (p1 : P x1) (p2 : P x2) :
    Calls Tryz.prog 33 #[.pointer (some ⟨S, 0, none⟩), .slice (some ⟨b, 0, none⟩) 3 3] w (SomePost S (k + 1) P w) :=
  some_any S k b 3 3 [x0, x1, x2] P w h hk hb hS (by omega) (by omega) (fun i hi => by match i, hi with | 0, _ => exact h0 | 1, _ => exact h1 | 2, _ => exact h2) (fun i hi => by match i, hi with | 0, _ => exact p0 | 1, _ => exact p1 | 2, _ => exact p2)
theorem some4 (S k b : Nat) (x0 x1 x2 x3 : List UInt8) (P : List UInt8 → Prop) (w : World) (h : StreamOk w S k) (hk : k ≤ 1000000000) (hb : b < w.heap.size) (hS : b ≠ S) (h0 : w.cell? ⟨b, 0, none⟩ = some (.string ⟨x0.toArray⟩)) (h1 : w.cell? ⟨b, 1, none⟩ = some (.string ⟨x1.toArray⟩)) (h2 : w.cell? ⟨b, 2, none⟩ = some (.string ⟨x2.toArray⟩)) (h3 : w.cell? ⟨b, 3, none⟩ = some (.string ⟨x3.toArray⟩)) (p0 : P x0) (p1 : P x1) (p2 : P x2) (p3 : P x3) :
    Calls Tryz.prog 33 #[.pointer (some ⟨S, 0, none⟩), .slice (some ⟨b, 0, none⟩) 4 4] w (SomePost S (k + 1) P w) :=
  some_any S k b 4 4 [x0, x1, x2, x3] P w h hk hb hS (by omega) (by omega) (fun i hi => by match i, hi with | 0, _ => exact h0 | 1, _ => exact h1 | 2, _ => exact h2 | 3, _ => exact h3) (fun i hi => by match i, hi with | 0, _ => exact p0 | 1, _ => exact p1 | 2, _ => exact p2 | 3, _ => exact p3)
end Go.Proofs.YthajppcmmmkfcaaGreatDoor

set_option linter.unusedVariables false
set_option linter.unusedSimpArgs false
namespace Go.Proofs.YthajppcmmmkfcaaGreatDoor
open Go.RowKit

theorem wpList_val {P : Program} {ops : Array Oper} {rest : List Oper} {o : Oper} {a : Act} {w w' : World} {v : Value} {Q : Exit → Act → World → Prop} (hg : o.guard = none) (h : (execOp a.eval o).run P w = .ok (.value v) w') (hr : wpList P ops Q rest (a.put o.dst v) w') : wpList P ops Q (o :: rest) a w :=
  wpList_plain hg fun _ hK => by unfold Oper.wp; rw [h]; exact hK _ _ hr

theorem bs_area1 (e : Operand → Value) (o : Oper) (w : World) (i : Nat) (ho : o.op = .buildSlice 66 1 #[(0, .tmp i)]) (p0 : ByteArray) (l0 h0 : Int) (hi : e (.tmp i) = .agg #[.string p0, .int .i64 l0, .int .i64 h0]) :
   (execOp e o).run Tryz.prog w = .ok (.value (.slice (some ⟨w.heap.size, 0, none⟩) 1 1)) (w.alloc (.cells #[.string p0, .int .i64 l0, .int .i64 h0] 72)) := by
  unfold execOp
  rw [ho]
  simp only [List.map_toArray, List.map_cons, List.map_nil, hi]
  kernel_rfl
theorem bs_area2 (e : Operand → Value) (o : Oper) (w : World) (i j : Nat) (ho : o.op = .buildSlice 66 2 #[(0, .tmp i), (1, .tmp j)]) (p0 p1 : ByteArray) (l0 h0 l1 h1 : Int) (hi : e (.tmp i) = .agg #[.string p0, .int .i64 l0, .int .i64 h0]) (hj : e (.tmp j) = .agg #[.string p1, .int .i64 l1, .int .i64 h1]) :
   (execOp e o).run Tryz.prog w = .ok (.value (.slice (some ⟨w.heap.size, 0, none⟩) 2 2)) (w.alloc (.cells #[.string p0, .int .i64 l0, .int .i64 h0, .string p1, .int .i64 l1, .int .i64 h1] 72)) := by
  unfold execOp
  rw [ho]
  simp only [List.map_toArray, List.map_cons, List.map_nil, hi, hj]
  kernel_rfl
theorem bs_area3 (e : Operand → Value) (o : Oper) (w : World) (i j k : Nat) (ho : o.op = .buildSlice 66 3 #[(0, .tmp i), (1, .tmp j), (2, .tmp k)]) (p0 p1 p2 : ByteArray) (l0 h0 l1 h1 l2 h2 : Int) (hi : e (.tmp i) = .agg #[.string p0, .int .i64 l0, .int .i64 h0]) (hj : e (.tmp j) = .agg #[.string p1, .int .i64 l1, .int .i64 h1]) (hk : e (.tmp k) = .agg #[.string p2, .int .i64 l2, .int .i64 h2]) :
   (execOp e o).run Tryz.prog w = .ok (.value (.slice (some ⟨w.heap.size, 0, none⟩) 3 3)) (w.alloc (.cells #[.string p0, .int .i64 l0, .int .i64 h0, .string p1, .int .i64 l1, .int .i64 h1, .string p2, .int .i64 l2, .int .i64 h2] 72)) := by
  unfold execOp
  rw [ho]
  simp only [List.map_toArray, List.map_cons, List.map_nil, hi, hj, hk]
  kernel_rfl
theorem bs_ctry3 (e : Operand → Value) (o : Oper) (w : World) (i j k : Nat) (ho : o.op = .buildSlice 26 3 #[(0, .tmp i), (1, .tmp j), (2, .tmp k)]) (c0 a0 t0 c1 a1 t1 c2 a2 t2 : ByteArray) (s0 s1 s2 : Option Addr) (n0 m0 n1 m1 n2 m2 : Nat) (hi : e (.tmp i) = .agg #[.string c0, .string a0, .string t0, .slice s0 n0 m0]) (hj : e (.tmp j) = .agg #[.string c1, .string a1, .string t1, .slice s1 n1 m1]) (hk : e (.tmp k) = .agg #[.string c2, .string a2, .string t2, .slice s2 n2 m2]) :
   (execOp e o).run Tryz.prog w = .ok (.value (.slice (some ⟨w.heap.size, 0, none⟩) 3 3)) (w.alloc (.cells #[.string c0, .string a0, .string t0, .slice s0 n0 m0, .string c1, .string a1, .string t1, .slice s1 n1 m1, .string c2, .string a2, .string t2, .slice s2 n2 m2] 68)) := by
  unfold execOp
  rw [ho]
  simp only [List.map_toArray, List.map_cons, List.map_nil, hi, hj, hk]
  kernel_rfl
theorem bs_str4 (e : Operand → Value) (he : ∀ v, e (.const v) = v) (o : Oper) (w : World) (b0 b1 b2 b3 : ByteArray) (ho : o.op = .buildSlice 46 4 #[(0, .const (.string b0)), (1, .const (.string b1)), (2, .const (.string b2)), (3, .const (.string b3))]) :
   (execOp e o).run Tryz.prog w = .ok (.value (.slice (some ⟨w.heap.size, 0, none⟩) 4 4)) (w.alloc (.cells #[.string b0, .string b1, .string b2, .string b3] 9)) := by
  unfold execOp
  rw [ho]
  simp only [List.map_toArray, List.map_cons, List.map_nil, he]
  kernel_rfl
theorem bs_str6 (e : Operand → Value) (he : ∀ v, e (.const v) = v) (o : Oper) (w : World) (b0 b1 b2 b3 b4 b5 : ByteArray) (ho : o.op = .buildSlice 46 6 #[(0, .const (.string b0)), (1, .const (.string b1)), (2, .const (.string b2)), (3, .const (.string b3)), (4, .const (.string b4)), (5, .const (.string b5))]) :
   (execOp e o).run Tryz.prog w = .ok (.value (.slice (some ⟨w.heap.size, 0, none⟩) 6 6)) (w.alloc (.cells #[.string b0, .string b1, .string b2, .string b3, .string b4, .string b5] 9)) := by
  unfold execOp
  rw [ho]
  simp only [List.map_toArray, List.map_cons, List.map_nil, he]
  kernel_rfl
theorem bs_str7 (e : Operand → Value) (he : ∀ v, e (.const v) = v) (o : Oper) (w : World) (b0 b1 b2 b3 b4 b5 b6 : ByteArray) (ho : o.op = .buildSlice 46 7 #[(0, .const (.string b0)), (1, .const (.string b1)), (2, .const (.string b2)), (3, .const (.string b3)), (4, .const (.string b4)), (5, .const (.string b5)), (6, .const (.string b6))]) :
   (execOp e o).run Tryz.prog w = .ok (.value (.slice (some ⟨w.heap.size, 0, none⟩) 7 7)) (w.alloc (.cells #[.string b0, .string b1, .string b2, .string b3, .string b4, .string b5, .string b6] 9)) := by
  unfold execOp
  rw [ho]
  simp only [List.map_toArray, List.map_cons, List.map_nil, he]
  kernel_rfl
theorem bs_str11 (e : Operand → Value) (he : ∀ v, e (.const v) = v) (o : Oper) (w : World) (b0 b1 b2 b3 b4 b5 b6 b7 b8 b9 b10 : ByteArray) (ho : o.op = .buildSlice 46 11 #[(0, .const (.string b0)), (1, .const (.string b1)), (2, .const (.string b2)), (3, .const (.string b3)), (4, .const (.string b4)), (5, .const (.string b5)), (6, .const (.string b6)), (7, .const (.string b7)), (8, .const (.string b8)), (9, .const (.string b9)), (10, .const (.string b10))]) :
   (execOp e o).run Tryz.prog w = .ok (.value (.slice (some ⟨w.heap.size, 0, none⟩) 11 11)) (w.alloc (.cells #[.string b0, .string b1, .string b2, .string b3, .string b4, .string b5, .string b6, .string b7, .string b8, .string b9, .string b10] 9)) := by
  unfold execOp
  rw [ho]
  simp only [List.map_toArray, List.map_cons, List.map_nil, he]
  kernel_rfl
end Go.Proofs.YthajppcmmmkfcaaGreatDoor
