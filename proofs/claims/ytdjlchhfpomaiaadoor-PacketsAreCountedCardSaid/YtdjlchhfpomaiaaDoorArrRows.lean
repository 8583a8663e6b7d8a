/- What is proved here: small facts on rows of arrivals, and on those that a stream makes. No condition. -/
import Derived.Test.YtdjlchhfpomaiaaDoorPlayLoop
import Derived.Test.YtdjlchhfpomaiaaDoorGenPick
set_option linter.unusedVariables false
set_option linter.unusedSimpArgs false
namespace Go.Proofs.YtdjlchhfpomaiaaDoor
open Go.RowKit

theorem Tryd.infoArr : (Tryd.prog.info? 33).map (fun i => (i.zero, i.size, i.bytes)) = some (some (.agg #[.int .i64 0, .int .i64 0, .int .i64 0, .int .i64 0, .int .i64 0, .bool false, .slice none 0 0]), 7, 72) := by kernel_rfl

theorem own_addr {w : World} {base : Nat} {e : TypeId} {size : Nat} {a : Option Addr} {m c n : Nat} {xs : List Value} (h : w.ownsRow base e size (.slice a m c) n xs) (p : Addr) (hp : a = some p) : p.spot = none ∧ base ≤ p.block ∧ p.block < w.heap.size := by
  subst hp
  rcases h.2 with ⟨e1, _⟩ | ⟨g, cap, cur, e1, hb, hg, _⟩
  · cases e1
  · injection e1 with e1 _ _
    injection e1 with e1
    subst e1
    exact ⟨rfl, hb, (Array.getElem?_eq_some_iff.1 hg).1⟩

theorem own_len {w : World} {base : Nat} {e : TypeId} {size : Nat} {v : Value} {n n' : Nat} {xs : List Value} (h : w.ownsRow base e size v n xs) (hn : n = n') : w.ownsRow base e size v n' xs := hn ▸ h

/-- Arrivals in the making: k rounds are done, the last moment is m. -/
structure RaOk (k : Nat) (m : Int) (l : List Arr) : Prop where
  few : l.length ≤ 2 * k
  m0 : 0 ≤ m
  m1 : m ≤ 50 + 25 * (k : Int)
  each : ∀ j, j < l.length → PktOk (l.getD j noArr).p ∧ (l.getD j noArr).p.src = 7 ∧ 0 ≤ (l.getD j noArr).at_ ∧ (l.getD j noArr).at_ ≤ m
  ord : ∀ j, 0 < j → j < l.length → (l.getD (j - 1) noArr).at_ ≤ (l.getD j noArr).at_

theorem RaOk.nil {m : Int} (h0 : 0 ≤ m) (h1 : m ≤ 50) : RaOk 0 m [] := ⟨by simp, h0, by omega, fun j hj => by simp at hj, fun j _ hj => by simp at hj⟩
theorem RaOk.later {k : Nat} {m d : Int} {l : List Arr} (h : RaOk k m l) (d0 : 0 ≤ d) (d1 : d ≤ 25) : RaOk (k + 1) (m + d) l :=
  ⟨by have := h.few; omega, by have := h.m0; omega, by have := h.m1; omega, fun j hj => by obtain ⟨a, b, c, e⟩ := h.each j hj; exact ⟨a, b, c, by omega⟩, h.ord⟩
theorem RaOk.more {k : Nat} {m : Int} {l : List Arr} {x : Arr} (h : RaOk k m l) (hl : l.length + 1 ≤ 2 * k) (hx : PktOk x.p ∧ x.p.src = 7) (ha : x.at_ = m) : RaOk k m (l ++ [x]) := by
  refine ⟨by simp; omega, h.m0, h.m1, fun j hj => ?_, fun j h0 hj => ?_⟩
  · rcases getD_snocA l x j hj with ⟨hj2, e⟩ | ⟨_, e⟩
    · rw [e]; exact h.each j hj2
    · rw [e]; exact ⟨hx.1, hx.2, by rw [ha]; exact h.m0, by rw [ha]; omega⟩
  · rcases getD_snocA l x j hj with ⟨hj2, e⟩ | ⟨e0, e⟩
    · rcases getD_snocA l x (j - 1) (by simp; omega) with ⟨_, e'⟩ | ⟨e0', _⟩
      · rw [e, e']; exact h.ord j h0 hj2
      · omega
    · rcases getD_snocA l x (j - 1) (by simp; omega) with ⟨hj3, e'⟩ | ⟨e0', _⟩
      · rw [e, e', ha]; exact (h.each (j - 1) hj3).2.2.2
      · omega
theorem RaOk.arrOk {k : Nat} {m : Int} {l : List Arr} (h : RaOk k m l) (hk : k ≤ 100) : ArrOk l :=
  ⟨by have := h.few; omega, fun i hi => (h.each i hi).2.2.1, fun i hi => by have := (h.each i hi).2.2.2; have := h.m1; omega, fun i hi => (h.each i hi).1, h.ord, fun i hi => by rw [(h.each i hi).2.1, (h.each 0 (by omega)).2.1]⟩

theorem PayAt.keeps {w w' : World} {S : Nat} {va vr : Value} {x : Arr} (h : PayAt w S va vr x) (hk : Keeps S w w') : PayAt w' S va vr x := by
  obtain ⟨h1, h0, h2⟩ := h
  refine ⟨h1.keeps hk (fun b off e => ?_), h0, fun p e => ?_⟩
  · have := (h2 _ e).2.1; simp at this; omega
  · obtain ⟨a1, a2, a3, a4, a5⟩ := h2 p e
    exact ⟨a1, a2, Nat.lt_of_lt_of_le a3 hk.size, a4, a5⟩
theorem PayAt.mix {w : World} {S : Nat} {va vr : Value} {x y : Arr} (h : PayAt w S va vr y) (he : x.pa = y.pa ∧ x.pn = y.pn ∧ x.p = y.p) : PayAt w S va vr x := by
  obtain ⟨e1, e2, e3⟩ := he
  unfold PayAt
  rw [e1, e2, e3]
  exact h
theorem own_some {w : World} {base : Nat} {e : TypeId} {size : Nat} {v : Value} {n : Nat} {xs : List Value} (h : w.ownsRow base e size v n xs) (hn : 0 < n) : ∃ g cap, v = .slice (some ⟨g, 0, none⟩) n cap := by
  rcases h.2 with ⟨_, h0⟩ | ⟨g, cap, cur, e1, _⟩
  · omega
  · exact ⟨g, cap, e1⟩
theorem news_alloc (w : World) (cs : Array Value) (ty : TypeId) : ∀ (j : Nat) u, cs.toList[j]? = some u → (w.alloc (.cells cs ty)).cell? ((⟨w.heap.size, 0, none⟩ : Addr).add j) = some u := by
  intro j u hj
  rw [addr_add0]
  simpa using hj
theorem WSt.cells {w : World} {S g n cap : Nat} {vr : Value} {l : List Arr} {r : List Int} (h : WSt w S (.slice (some ⟨g, 0, none⟩) n cap) vr l r) (i : Nat) (hi : i < l.length) : (∀ j, j < 7 → w.cell? ⟨g, i * 7 + j, none⟩ = (l.getD i noArr).cells[j]?) ∧ ∀ j, w.frozen? ⟨g, j, none⟩ = false := by
  obtain ⟨g2, cap2, e2⟩ := own_some h.rows (by omega)
  have hr := h.rows
  injection e2 with e3 e4 e5
  subst e4
  exact ⟨fun j hj => by rw [hr.cellAt (i * 7 + j) (by omega), flatA_at l i j hi hj], fun j => hr.frozenAt j⟩

/-- The moment of one, the packet of another. -/
def mixA (x y : Arr) : Arr := ⟨x.at_, y.p, y.pa, y.pn, y.pc⟩
/-- Six cells behind the moment. -/
def sixAt {α : Type} (f : α → Nat → Value → α) (z : α) (o : Nat) (y : Arr) : α := f (f (f (f (f (f z (o + 1) (.int .i64 y.p.type)) (o + 2) (.int .i64 y.p.seq)) (o + 3) (.int .i64 y.p.time)) (o + 4) (.int .i64 y.p.src)) (o + 5) (.bool y.p.mark)) (o + 6) (.slice y.pa y.pn y.pc)

theorem flatA_mix : ∀ (l : List Arr) (i : Nat) (y : Arr), i < l.length → sixAt (fun xs j v => List.set xs j v) (flatA l) (i * 7) y = flatA (l.set i (mixA (l.getD i noArr) y))
  | c :: cs, 0, y, _ => by simp [flatA, sixAt, mixA, Arr.cells]
  | c :: cs, i + 1, y, hi => by
    have ih := flatA_mix cs i y (by simpa using hi)
    have e : ∀ (xs : List Value) (j : Nat) (v : Value), (c.cells ++ xs).set ((i + 1) * 7 + j) v = c.cells ++ xs.set (i * 7 + j) v := by
      intro xs j v
      rw [List.set_append_right _ _ (by simp [Arr.cells]; omega)]
      congr 2
      simp [Arr.cells]; omega
    simp only [sixAt, flatA, List.flatMap_cons, List.set_cons_succ, List.getD_cons_succ] at ih ⊢
    rw [e, e, e, e, e, e, ih]

theorem own_six {w : World} {base : Nat} {e : TypeId} {g n cap : Nat} {l : List Arr} (h : w.ownsRow base e 7 (.slice (some ⟨g, 0, none⟩) n cap) n (flatA l)) (i : Nat) (y : Arr) (hi : i < l.length) : (sixAt (fun w j v => World.setCell w ⟨g, j, none⟩ v) w (i * 7) y).ownsRow base e 7 (.slice (some ⟨g, 0, none⟩) n cap) n (flatA (l.set i (mixA (l.getD i noArr) y))) := by
  rw [← flatA_mix l i y hi]
  exact (((((((h.stored (i * 7 + 1) _).1.stored (i * 7 + 2) _).1.stored (i * 7 + 3) _).1.stored (i * 7 + 4) _).1.stored (i * 7 + 5) _).1.stored (i * 7 + 6) _).1)

theorem six_keeps {g : Nat} {w : World} (o : Nat) (y : Arr) : Keeps g w (sixAt (fun w j v => World.setCell w ⟨g, j, none⟩ v) w o y) :=
  ((((((Keeps.refl g w).setCell (p := ⟨g, o + 1, none⟩) rfl _).setCell (p := ⟨g, o + 2, none⟩) rfl _).setCell (p := ⟨g, o + 3, none⟩) rfl _).setCell (p := ⟨g, o + 4, none⟩) rfl _).setCell (p := ⟨g, o + 5, none⟩) rfl _).setCell (p := ⟨g, o + 6, none⟩) rfl _
theorem Keeps.then_new {S g : Nat} {a b c : World} (h : Keeps S a b) (k : Keeps g b c) (hg : a.heap.size ≤ g) : Keeps S a c :=
  ⟨k.os.trans h.os, k.tape.trans h.tape, k.output.trans h.output, Nat.le_trans h.size k.size, fun i hi hn => (k.block i (Nat.lt_of_lt_of_le hi h.size) (by omega)).trans (h.block i hi hn)⟩

/-- Two arrivals change their packets. -/
def swapL (l : List Arr) (i j : Nat) : List Arr := (l.set i (mixA (l.getD i noArr) (l.getD j noArr))).set j (mixA (l.getD j noArr) (l.getD i noArr))
theorem swapL_length (l : List Arr) (i j : Nat) : (swapL l i j).length = l.length := by simp [swapL]
theorem swapL_at (l : List Arr) (i j t : Nat) (hi : i < l.length) (hj : j < l.length) (hij : i ≠ j) : (swapL l i j).getD t noArr = if t = j then mixA (l.getD j noArr) (l.getD i noArr) else if t = i then mixA (l.getD i noArr) (l.getD j noArr) else l.getD t noArr := by
  unfold swapL
  by_cases h1 : t = j
  · subst h1
    rw [if_pos rfl]
    simp [List.getD_eq_getElem?_getD, hj]
  · rw [if_neg h1]
    have h1' : ¬ j = t := fun e => h1 e.symm
    by_cases h2 : t = i
    · subst h2
      rw [if_pos rfl]
      simp [List.getD_eq_getElem?_getD, List.getElem?_set, h1', hi]
    · rw [if_neg h2]
      have h2' : ¬ i = t := fun e => h2 e.symm
      simp [List.getD_eq_getElem?_getD, List.getElem?_set, h1', h2']
def sixW (g : Nat) (w : World) (o : Nat) (y : Arr) : World := sixAt (fun w j v => World.setCell w ⟨g, j, none⟩ v) w o y
theorem two_keeps {g : Nat} {w : World} (o1 o2 : Nat) (y z : Arr) : Keeps g w (sixW g (sixW g w o1 y) o2 z).drew := ((six_keeps o1 y).trans (six_keeps o2 z)).drew

theorem WSt.swap {w : World} {S g n cap : Nat} {l : List Arr} (h : WSt w S (.slice (some ⟨g, 0, none⟩) n cap) (.slice none 0 0) l []) (i j : Nat) (hi : i < l.length) (hj : j < l.length) (hij : i ≠ j) :
    WSt (sixW g (sixW g w (i * 7) (l.getD j noArr)) (j * 7) (l.getD i noArr)).drew S (.slice (some ⟨g, 0, none⟩) n cap) (.slice none 0 0) (swapL l i j) [] := by
  have hk := two_keeps (g := g) (w := w) (i * 7) (j * 7) (l.getD j noArr) (l.getD i noArr)
  have hn : n = l.length := by
    obtain ⟨g2, cap2, e2⟩ := own_some h.rows (by omega)
    injection e2
  subst hn
  have r1 := own_six h.rows i (l.getD j noArr) hi
  have r2 := own_six r1 j (l.getD i noArr) (by simpa using hj)
  rw [show (l.set i (mixA (l.getD i noArr) (l.getD j noArr))).getD j noArr = l.getD j noArr by simp [List.getD_eq_getElem?_getD, List.getElem?_set, hij]] at r2
  have pay : ∀ y, PayAt w S (.slice (some ⟨g, 0, none⟩) l.length cap) (.slice none 0 0) y → PayAt (sixW g (sixW g w (i * 7) (l.getD j noArr)) (j * 7) (l.getD i noArr)).drew S (.slice (some ⟨g, 0, none⟩) l.length cap) (.slice none 0 0) y := by
    rintro y ⟨h1, h0, h2⟩
    refine ⟨h1.keeps hk (fun b off e => ?_), h0, fun p e => ?_⟩
    · intro e2; exact (h2 _ e).2.2.2.1 (by rw [← e2]; rfl)
    · obtain ⟨a1, a2, a3, a4, a5⟩ := h2 p e
      exact ⟨a1, a2, Nat.lt_of_lt_of_le a3 hk.size, a4, a5⟩
  refine ⟨Nat.lt_of_lt_of_le h.lt hk.size, ?_, World.ownsRow_nil _ _ _ _, (fun b _ e => by cases e), fun t ht => ?_⟩
  · rw [swapL_length]
    unfold swapL sixW
    exact r2.kept_below (ext_drew (Below.refl _ _))
  · rw [swapL_length] at ht
    rw [swapL_at l i j t hi hj hij]
    split
    · exact (pay _ (h.pays i hi)).mix ⟨rfl, rfl, rfl⟩
    · split
      · exact (pay _ (h.pays j hj)).mix ⟨rfl, rfl, rfl⟩
      · exact pay _ (h.pays t ht)
theorem RaOk.swap {k : Nat} {m : Int} {l : List Arr} (h : RaOk k m l) (i j : Nat) (hi : i < l.length) (hj : j < l.length) (hij : i ≠ j) : RaOk k m (swapL l i j) := by
  have hat : ∀ t, ((swapL l i j).getD t noArr).at_ = (l.getD t noArr).at_ := by
    intro t
    rw [swapL_at l i j t hi hj hij]
    split
    · rename_i e; subst e; rfl
    · split
      · rename_i e; subst e; rfl
      · rfl
  refine ⟨by rw [swapL_length]; exact h.few, h.m0, h.m1, fun t ht => ?_, fun t h0 ht => ?_⟩
  · rw [swapL_length] at ht
    rw [hat]
    obtain ⟨b1, b2, b3, b4⟩ := h.each t ht
    have : PktOk ((swapL l i j).getD t noArr).p ∧ ((swapL l i j).getD t noArr).p.src = 7 := by
      rw [swapL_at l i j t hi hj hij]
      split
      · exact ⟨(h.each i hi).1, (h.each i hi).2.1⟩
      · split
        · exact ⟨(h.each j hj).1, (h.each j hj).2.1⟩
        · exact ⟨b1, b2⟩
    exact ⟨this.1, this.2, b3, b4⟩
  · rw [swapL_length] at ht
    rw [hat, hat]
    exact h.ord t h0 ht
end Go.Proofs.YtdjlchhfpomaiaaDoor
