/- What is proved here: lemmas and contracts for the statement, put together out of smaller texts (GbBase, DplOrd, DplOpn, DplPl, DplPg, DplTb, DplPq, DplRp, FwdMath, CarrMath, CarrTurn, CarrOwn). No condition beyond those stated. -/
import Derived.Test.YtkdadbpajhdelaaGreatDoorCePkE
import Derived.Laws.AppendOwn
import Derived.Maps.AppendAt
import Derived.Test.YtkdadbpajhdelaaGreatDoorCePkF
import Derived.Test.YtkdadbpajhdelaaGreatDoorCePkC
import Derived.Test.YtkdadbpajhdelaaGreatDoorCePkA
import Derived.Sort.LotA
import Derived.Test.YtkdadbpajhdelaaGreatDoorCePkB
set_option linter.unusedVariables false
set_option linter.unusedSimpArgs false
namespace Go.Proofs.YtkdadbpajhdelaaGreatDoor
open Go.RowKit

theorem gb_of_below {w w' : World} {row : Option Nat} (h : Below w.heap.size w w') : w.grownBy w' row := ⟨h.os, h.tape, h.output, h.size, fun k hk _ => h.block k hk⟩
theorem gb_below {w w1 w2 : World} {row : Option Nat} (h : w.grownBy w1 row) (hb : Below w1.heap.size w1 w2) : w.grownBy w2 row :=
  ⟨hb.os.trans h.os, hb.tape.trans h.tape, hb.output.trans h.output, Nat.le_trans h.size hb.size, fun k hk hn => (hb.block k (Nat.lt_of_lt_of_le hk h.size)).trans (h.block k hk hn)⟩
theorem gb_trans {w w1 w2 : World} {row : Option Nat} (h : w.grownBy w1 row) (hb : w1.grownBy w2 row) : w.grownBy w2 row :=
  ⟨hb.os.trans h.os, hb.tape.trans h.tape, hb.output.trans h.output, Nat.le_trans h.size hb.size, fun k hk hn => (hb.block k (Nat.lt_of_lt_of_le hk h.size) hn).trans (h.block k hk hn)⟩
theorem gb_to_below {w w' : World} {row : Option Nat} {base : Nat} (h : w.grownBy w' row) (hb : base ≤ w.heap.size) (hr : ∀ b, row = some b → base ≤ b) : Below base w w' :=
  ⟨h.os, h.tape, h.output, h.size, fun k hk => h.block k (by omega) fun e => by have := hr k e.symm; omega⟩
theorem gb_alloc {w w' : World} {o : Obj} {row : Option Nat} (h : (w.alloc o).grownBy w' row) : w.grownBy w' row := gb_trans (gb_of_below (ext_alloc (Below.refl _ _))) h
theorem own_gb {w w' : World} {row : Option Nat} {base e size : Nat} {v : Value} {n : Nat} {xs : List Value} (h : w.ownsRow base e size v n xs) (hg : w.grownBy w' row) (hd : ∀ b, v.ownBlock = some b → row ≠ some b) : w'.ownsRow base e size v n xs := by
  refine ⟨h.1, h.2.imp id ?_⟩
  rintro ⟨g, cap, cur, rfl, h1, h2, h3⟩
  exact ⟨g, cap, cur, rfl, h1, (hg.block g (Array.getElem?_eq_some_iff.1 h2).1 (fun e => hd g rfl e.symm)).trans h2, h3⟩
/-- Rows of different elements lie in different blocks; a row is no box of another kind. -/
theorem own_types {w : World} {base base' e e' size size' : Nat} {v v' : Value} {n n' : Nat} {xs xs' : List Value} (h : w.ownsRow base e size v n xs) (h2 : w.ownsRow base' e' size' v' n' xs') (hne : e ≠ e') : ∀ b, v.ownBlock = some b → v'.ownBlock ≠ some b := by
  intro b hb hb'
  rcases h.2 with ⟨rfl, _⟩ | ⟨g, cap, cur, rfl, _, hg, _⟩
  · cases hb
  rcases h2.2 with ⟨rfl, _⟩ | ⟨g', cap', cur', rfl, _, hg', _⟩
  · cases hb'
  injection hb with hb
  injection hb' with hb'
  simp only at hb hb'
  subst hb; subst hb'
  rw [hg] at hg'
  injection hg' with hg'
  injection hg' with _ h9
  exact hne h9
theorem own_blk {w : World} {base e size : Nat} {v : Value} {n : Nat} {xs : List Value} (h : w.ownsRow base e size v n xs) {X : Nat} {cs : List Value} {ty : TypeId} (hX : Blk w X cs ty) (hne : e ≠ ty) : v.ownBlock ≠ some X := by
  intro hb
  rcases h.2 with ⟨rfl, _⟩ | ⟨g, cap, cur, rfl, _, hg, _⟩
  · cases hb
  injection hb with hb
  simp only at hb
  subst hb
  rw [hX.at_] at hg
  injection hg with hg
  injection hg with _ h9
  exact hne h9.symm
theorem own_before {w : World} {base e size : Nat} {v : Value} {n : Nat} {xs : List Value} (h : w.ownsRow base e size v n xs) {X : Nat} (hX : w.heap.size ≤ X) : v.ownBlock ≠ some X := fun hb => by
  have := (h.lt X hb).2
  omega
/-- Cells written above a beginning of a row. -/
theorem setCells_gb {w : World} (g : Nat) : ∀ (L : List Value) (o : Nat), w.grownBy (w.setCells g o L) (some g) := by
  intro L
  induction L generalizing w with
  | nil => intro o; exact gb_of_below (Below.refl _ _)
  | cons v L ih =>
    intro o
    refine gb_trans ?_ (ih (w := w.setCell ⟨g, o, none⟩ v) (o + 1))
    refine ⟨rfl, rfl, rfl, by simp [World.setCell], fun k hk hn => Below.heap_setCell _ _ _ _ (fun e => hn (by rw [e]))⟩
end Go.Proofs.YtkdadbpajhdelaaGreatDoor

set_option linter.unusedVariables false
set_option linter.unusedSimpArgs false
namespace Go.Proofs.YtkdadbpajhdelaaGreatDoor
open Go.RowKit Go.Lib

theorem Tryz.infoIntO : (Tryz.prog.info? 3).map (fun i => (i.zero, i.size, i.bytes)) = some (some (.int .i64 0), 1, 8) := by kernel_rfl
theorem Tryz.infoCtxO : (Tryz.prog.info? 59).map (fun i => (i.zero, i.size, i.bytes)) = some (some (.agg #[.string ⟨#[]⟩, .slice none 0 0, .slice none 0 0]), 3, 64) := by kernel_rfl
def encN (j : Nat) : Value := .int .i64 (j : Int)
theorem shape_own {w : World} {base : Nat} {e : TypeId} {size : Nat} {v : Value} {n : Nat} {xs : List Value} (h : w.ownsRow base e size v n xs) : (n = 0 ∧ v = .slice none 0 0) ∨ ∃ g c, v = .slice (some ⟨g, 0, none⟩) n c ∧ base ≤ g ∧ g < w.heap.size := by
  rcases h.2 with ⟨h1, h0⟩ | ⟨g, cap, cur, rfl, h1, h2, _⟩
  · exact Or.inl ⟨h0, h1⟩
  · exact Or.inr ⟨g, cap, rfl, h1, (Array.getElem?_eq_some_iff.1 h2).1⟩
theorem own_more {w w' : World} {base e size : Nat} {v : Value} {n : Nat} {xs : List Value} (h : w.ownsRow base e size v n xs) (hb : Below w.heap.size w w') : w'.ownsRow base e size v n xs := own_gb h (gb_of_below (row := none) hb) (fun _ _ h => by cases h)
/-- What a walk over integers of the call's own leaves as it was. -/
structure IntsOnly (base : Nat) (W W' : World) : Prop where
  below : Below base W W'
  kept : ∀ X cs ty, Blk W X cs ty → ty ≠ 3 → Blk W' X cs ty
theorem IntsOnly.trans {base : Nat} {W W1 W2 : World} (h : IntsOnly base W W1) (h2 : IntsOnly base W1 W2) : IntsOnly base W W2 := ⟨h.below.trans h2.below, fun X cs ty hX hn => h2.kept X cs ty (h.kept X cs ty hX hn) hn⟩
theorem IntsOnly.of_below {base : Nat} {W W' : World} (h : Below W.heap.size W W') (hb : base ≤ W.heap.size) : IntsOnly base W W' := ⟨h.mono hb, fun X cs ty hX _ => hX.below h⟩
theorem IntsOnly.of_grown {base : Nat} {W W' : World} {v : Value} {n : Nat} {xs : List Value} (ho : W.ownsRow base 3 1 v n xs) (hg : W.grownBy W' v.ownBlock) (hb : base ≤ W.heap.size) : IntsOnly base W W' := ⟨gb_to_below hg hb (fun b hb' => by
  rcases shape_own ho with ⟨_, rfl⟩ | ⟨g, c, rfl, h1, _⟩
  · cases hb'
  · obtain rfl : g = b := Option.some.inj hb'; exact h1), fun X cs ty hX hn => hX.grown hg (own_blk ho hX (Ne.symm hn))⟩
def adjP (p : DPlan) (i : Nat) : List Nat := (p.ctxs.getD i noDCtx).incs
def OrdPost (base : Nat) (l : List Nat) (W : World) (e : Ending) (W' : World) : Prop := ∃ v, e = .returned v ∧ W'.ownsRow base 3 1 v l.length (l.map encN) ∧ IntsOnly base W W'
theorem fold_len {g : List Nat → Nat → List Nat} {b : Nat} (h : ∀ o j, (g o j).length ≤ o.length + b) : ∀ (l : List Nat) (o : List Nat), (l.foldl g o).length ≤ o.length + l.length * b
  | [], o => by simp
  | x :: l, o => by
    have h1 := fold_len h l (g o x)
    have h2 := h o x
    rw [List.foldl_cons, List.length_cons, Nat.succ_mul]
    omega
theorem ord_len {adj : Nat → List Nat} (ha : ∀ i, (adj i).length ≤ 2) : ∀ (f i : Nat) (o : List Nat), (ordIn adj f i o).length + 1 ≤ o.length + 2 ^ f
  | 0, i, o => by unfold ordIn; simp
  | f + 1, i, o => by
    unfold ordIn
    have hp : 0 < 2 ^ f := Nat.pow_pos (by decide)
    split
    · rw [Nat.pow_succ]; omega
    · have h := fold_len (g := fun o j => ordIn adj f j o) (b := 2 ^ f - 1) (fun o j => by have := ord_len ha f j o; omega) (adj i) (o ++ [i])
      have h2 := ha i
      have h3 : (adj i).length * (2 ^ f - 1) ≤ 2 * (2 ^ f - 1) := Nat.mul_le_mul_right _ h2
      rw [List.length_append, List.length_singleton] at h
      rw [Nat.pow_succ]
      omega
theorem fold_next {α β : Type} (g : α → β → α) (l : List β) (z : β) (o : α) (q : Nat) (hq : q < l.length) : (l.take (q + 1)).foldl g o = g ((l.take q).foldl g o) (l.getD q z) := by
  rw [List.take_add_one, List.getElem?_eq_getElem hq, List.foldl_append, List.getD_eq_getElem?_getD, List.getElem?_eq_getElem hq]
  rfl
end Go.Proofs.YtkdadbpajhdelaaGreatDoor

set_option linter.unusedVariables false
set_option linter.unusedSimpArgs false
namespace Go.Proofs.YtkdadbpajhdelaaGreatDoor
open Go.RowKit Go.Lib

theorem fold_lt {g : List Nat → Nat → List Nat} (h : ∀ o j, j < 3 → (∀ x ∈ o, x < 3) → ∀ x ∈ g o j, x < 3) : ∀ (l : List Nat) (o : List Nat), (∀ j ∈ l, j < 3) → (∀ x ∈ o, x < 3) → ∀ x ∈ l.foldl g o, x < 3
  | [], o, _, ho => ho
  | x :: l, o, hl, ho => fold_lt h l (g o x) (fun j hj => hl j (List.mem_cons_of_mem _ hj)) (h o x (hl x List.mem_cons_self) ho)
theorem ord_lt {adj : Nat → List Nat} (ha : ∀ i, ∀ j ∈ adj i, j < 3) : ∀ (f i : Nat) (o : List Nat), i < 3 → (∀ x ∈ o, x < 3) → ∀ x ∈ ordIn adj f i o, x < 3
  | 0, i, o, _, ho => by unfold ordIn; exact ho
  | f + 1, i, o, hi, ho => by
    unfold ordIn
    split
    · exact ho
    · exact fold_lt (fun o j hj ho => ord_lt ha f j o hj ho) (adj i) (o ++ [i]) (ha i) (fun x hx => by
        rcases List.mem_append.1 hx with hx | hx
        · exact ho x hx
        · simp at hx; omega)
/-- The contexts that are asked for one. -/
def ordP (p : DPlan) (i : Nat) : List Nat := ordIn (adjP p) 3 i []
theorem adj_lt {w : World} {p : DPlan} (hp : DPlanFine w p) : ∀ i, ∀ j ∈ adjP p i, j < 3 := fun i j hj => by
  unfold adjP at hj
  by_cases h3 : i < 3
  · exact ((hp.incs i h3).1 j hj).2
  · rw [List.getD_eq_getElem?_getD, List.getElem?_eq_none (by have := hp.three; omega)] at hj
    cases hj
theorem ordP_ok {w : World} {p : DPlan} (hp : DPlanFine w p) {i : Nat} (hi : i < 3) : (∀ x ∈ ordP p i, x < 3) ∧ (ordP p i).length ≤ 7 := by
  refine ⟨ord_lt (adj_lt hp) 3 i [] hi (fun x hx => by cases hx), ?_⟩
  have := ord_len (adj := adjP p) (fun i => by
    unfold adjP
    by_cases h3 : i < 3
    · exact (hp.incs i h3).2.2
    · have := hp.three
      rw [List.getD_eq_getElem?_getD, List.getElem?_eq_none (by omega)]
      decide) 3 i []
  simp at this
  unfold ordP
  omega
def ctxRow (p : DPlan) (l : List Nat) : List Value := (l.map fun k => (p.ctxs.getD k noDCtx).cells).flatten
def CtxsPost (p : DPlan) (l : List Nat) (w : World) (e : Ending) (w' : World) : Prop := ∃ v, e = .returned (.tuple #[v, .int .i64 0]) ∧ w'.ownsRow w.heap.size 59 3 v l.length (ctxRow p l) ∧ Below w.heap.size w w'
theorem bl_dop0 (e : Operand → Value) (he : ∀ v, e (.const v) = v) (o : Oper) (w : World) (i0 : Nat) (p0_0 : ByteArray) (a0_1 : Option Addr) (n0_1 : Nat) (m0_1 : Nat) (a0_2 : Option Addr) (n0_2 : Nat) (m0_2 : Nat) (ho : o.op = .buildSlice 26 1 #[(0, .tmp i0)]) (h0 : e (.tmp i0) = .agg #[.string p0_0, .slice a0_1 n0_1 m0_1, .slice a0_2 n0_2 m0_2]) :
   (execOp e o).run Tryz.prog w = .ok (.value (.slice (some ⟨w.heap.size, 0, none⟩) 1 1)) (w.alloc (.cells #[.string p0_0, .slice a0_1 n0_1 m0_1, .slice a0_2 n0_2 m0_2] 59)) := by
  unfold execOp
  rw [ho]
  simp only [List.map_toArray, List.map_cons, List.map_nil, h0]
  kernel_rfl
end Go.Proofs.YtkdadbpajhdelaaGreatDoor

set_option linter.unusedVariables false
set_option linter.unusedSimpArgs false
namespace Go.Proofs.YtkdadbpajhdelaaGreatDoor
open Go.RowKit Go.Lib

theorem own_lower {w : World} {base b2 e size : Nat} {v : Value} {n : Nat} {xs : List Value} (h : w.ownsRow base e size v n xs) (hb : b2 ≤ base) : w.ownsRow b2 e size v n xs := ⟨h.1, h.2.imp id (by rintro ⟨g, cap, cur, e, h1, rest⟩; exact ⟨g, cap, cur, e, Nat.le_trans hb h1, rest⟩)⟩
def OnceR (l : List DRule) : Prop := ∀ j k, j < k → k < l.length → ¬ ((l.getD j noDRule).els.str = (l.getD k noDRule).els.str ∧ (l.getD j noDRule).hours = (l.getD k noDRule).hours)
/-- A list of rules of the call's own. -/
structure RulesAt (W : World) (base : Nat) (v : Value) (l : List DRule) : Prop where
  own : W.ownsRow base 62 6 v l.length ((l.map DRule.cells).flatten)
  ok : ∀ r ∈ l, DRuleOk r
  once : OnceR l
theorem RulesAt.keeps {S : Nat} {W W' : World} {base : Nat} {v : Value} {l : List DRule} (h : RulesAt W base v l) (hk : Keeps S W W') (hS : S < base) : RulesAt W' base v l := ⟨own_keeps h.own hk hS, h.ok, h.once⟩
theorem RulesAt.below {W W' : World} {base : Nat} {v : Value} {l : List DRule} (h : RulesAt W base v l) (hb : Below W.heap.size W W') : RulesAt W' base v l := ⟨own_more h.own hb, h.ok, h.once⟩
theorem RulesAt.lower {W : World} {base b2 : Nat} {v : Value} {l : List DRule} (h : RulesAt W base v l) (hb : b2 ≤ base) : RulesAt W b2 v l := ⟨own_lower h.own hb, h.ok, h.once⟩
theorem rules_nil (W : World) (base : Nat) : RulesAt W base (.slice none 0 0) [] := ⟨World.ownsRow_nil _ _ _ _, (fun r h => (by cases h)), (fun j k hj hk => (by cases hk))⟩
theorem once_snoc {l : List DRule} {r : DRule} (h : OnceR l) (hn : (l.any fun o => decide (o.els.str = r.els.str ∧ o.hours = r.hours)) = false) : OnceR (l ++ [r]) := fun j k hj hk => by
  rw [List.length_append, List.length_singleton] at hk
  have e1 : (l ++ [r]).getD j noDRule = l.getD j noDRule := by rw [List.getD_eq_getElem?_getD, List.getElem?_append_left (by omega), ← List.getD_eq_getElem?_getD]
  rw [e1]
  by_cases hkl : k < l.length
  · have e2 : (l ++ [r]).getD k noDRule = l.getD k noDRule := by rw [List.getD_eq_getElem?_getD, List.getElem?_append_left hkl, ← List.getD_eq_getElem?_getD]
    rw [e2]
    exact h j k hj hkl
  · have e2 : (l ++ [r]).getD k noDRule = r := by rw [List.getD_eq_getElem?_getD, List.getElem?_append_right (by omega), show k - l.length = 0 by omega]; rfl
    rw [e2]
    rw [List.any_eq_false] at hn
    have hj2 : j < l.length := by omega
    have := hn (l.getD j noDRule) (by rw [List.getD_eq_getElem?_getD, List.getElem?_eq_getElem hj2]; exact List.getElem_mem _)
    simpa using this
theorem RulesAt.row {W : World} {base : Nat} {a : Option Addr} {n c : Nat} {l : List DRule} (h : RulesAt W base (.slice a n c) l) (hf : l.length ≤ 10) : RuleRow W a n l ∧ n = l.length ∧ n ≤ c := by
  obtain ⟨a9, c9, e, hc⟩ := Cells.of_own h.own (fun x hx => by obtain ⟨y, _, rfl⟩ := List.mem_map.1 hx; rfl) (by decide)
  injection e with e1 e2 e3
  subst e1 e2 e3
  refine ⟨⟨hc, hf, fun i hi => h.ok _ (by rw [List.getD_eq_getElem?_getD, List.getElem?_eq_getElem hi]; exact List.getElem_mem _)⟩, rfl, ?_⟩
  rcases h.own.2 with ⟨e, h0⟩ | ⟨g, cap, cur, e, _, _, h3, _⟩
  · rw [h0]; exact Nat.zero_le _
  · injection e with e1 e2 e3
    subst e3
    exact h3
/-- The hours of a plan in the making. -/
structure HrsAt (W : World) (base : Nat) (v : Value) (l : List Hrs) : Prop where
  own : W.ownsRow base 125 4 v l.length (l.flatMap Hrs.cells)
  each : ∀ x ∈ l, HrsOk W base x
  two : l.length = 2
  keys : ∀ i, i < 2 → (l.getD i noHrs).key = hourKeys.getD i []
theorem HrsAt.keeps {S : Nat} {W W' : World} {base : Nat} {v : Value} {l : List Hrs} (h : HrsAt W base v l) (hk : Keeps S W W') (hS : S < base) : HrsAt W' base v l := ⟨own_keeps h.own hk hS, fun x hx => (h.each x hx).keeps hk hS, h.two, h.keys⟩
theorem HrsOk.other {w w' : World} {base b2 : Nat} {x : Hrs} {v : Value} {n s : Nat} {e : TypeId} {ys : List Value} (h : HrsOk w base x) (h2 : w.ownsRow b2 e s v n ys) (h1e : 127 ≠ e) (h2e : 129 ≠ e) (hg : w.grownBy w' v.ownBlock) : HrsOk w' base x :=
  ⟨own_grown h.own1 h2 h1e hg, own_grown h.own2 h2 h2e hg, h.ok⟩
theorem HrsAt.row {W : World} {base : Nat} {a : Option Addr} {n c : Nat} {l : List Hrs} (h : HrsAt W base (.slice a n c) l) : HrsRow W a n l ∧ n ≤ c := by
  have e0 : l.flatMap Hrs.cells = (l.map Hrs.cells).flatten := List.flatMap_def ..
  have ho := h.own
  rw [e0] at ho
  obtain ⟨a9, c9, e, hc⟩ := Cells.of_own ho (fun x hx => by obtain ⟨y, _, rfl⟩ := List.mem_map.1 hx; rfl) (by decide)
  injection e with e1 e2 e3
  subst e1 e2 e3
  have hm : ∀ i, i < 2 → l.getD i noHrs ∈ l := fun i hi => by
    rw [List.getD_eq_getElem?_getD, List.getElem?_eq_getElem (by rw [h.two]; exact hi)]; exact List.getElem_mem _
  refine ⟨⟨hc, h.two, fun i hi => ((h.each _ (hm i hi)).tri).1, fun i hi => ((h.each _ (hm i hi)).tri).2, fun i hi => (h.each _ (hm i hi)).ok, h.keys⟩, ?_⟩
  rcases ho.2 with ⟨e, h0⟩ | ⟨g, cap, cur, e, _, _, h3, _⟩
  · rw [h0]; exact Nat.zero_le _
  · injection e with e1 e2 e3
    subst e3
    exact h3
end Go.Proofs.YtkdadbpajhdelaaGreatDoor

set_option linter.unusedVariables false
set_option linter.unusedSimpArgs false
namespace Go.Proofs.YtkdadbpajhdelaaGreatDoor
open Go.RowKit Go.Lib

theorem put_gb {W : World} (g j : Nat) (u : Value) : W.grownBy (W.setCell ⟨g, j, none⟩ u) (some g) := ⟨rfl, rfl, rfl, by simp [World.setCell], fun k hk hn => Below.heap_setCell _ _ _ _ (fun e => hn (by rw [e]))⟩
/-- What a context includes lies in memory: not in block S nor in block g. -/
structure IncF (S g : Nat) (W : World) (i : Nat) (c : DCtx) : Prop where
  up : ∀ j ∈ c.incs, i < j ∧ j < 3
  once : c.incs.Nodup
  few : c.incs.length ≤ 2
  cap : c.inn ≤ c.ic
  cells : Cells W 1 c.ia c.inn (c.incs.map incV)
  off_ : ∀ b o, c.ia = some ⟨b, o, none⟩ → b ≠ S ∧ b ≠ g
theorem cells_keep {W W' : World} {sz : Nat} {a : Option Addr} {n : Nat} {cs : List (List Value)} (h : Cells W sz a n cs) (hs : W.heap.size ≤ W'.heap.size) (hk : ∀ b o, a = some ⟨b, o, none⟩ → b < W.heap.size → W'.heap[b]? = W.heap[b]?) : Cells W' sz a n cs := by
  refine ⟨h.len, h.row.imp id ?_⟩
  rintro ⟨b, off, ha, hl, hc⟩
  exact ⟨b, off, ha, Nat.lt_of_lt_of_le hl hs, fun i hi j hj => (World.cell?_of_block (hk b off ha hl)).trans (hc i hi j hj)⟩
theorem IncF.keeps {S g : Nat} {W W' : World} {i : Nat} {c : DCtx} (h : IncF S g W i c) (hk : Keeps S W W') : IncF S g W' i c := ⟨h.up, h.once, h.few, h.cap, cells_keep h.cells hk.size (fun b o e hb => hk.block b hb (h.off_ b o e).1), h.off_⟩
theorem IncF.put {S g : Nat} {W : World} {i : Nat} {c : DCtx} (h : IncF S g W i c) (j : Nat) (u : Value) : IncF S g (W.setCell ⟨g, j, none⟩ u) i c := ⟨h.up, h.once, h.few, h.cap, cells_keep h.cells (by simp [World.setCell]) (fun b o e hb => Below.heap_setCell _ _ _ _ (h.off_ b o e).2), h.off_⟩
structure PlG (S b0 Q P g cap : Nat) (pz : List Value) (hv : Value) (hrs : List Hrs) (ctxs : List DCtx) (W : World) : Prop where
  q_ : Blk W Q pz 29
  p_ : Blk W P [.slice (some ⟨g, 0, none⟩) 3 cap, hv] 29
  hh : HrsAt W b0 hv hrs
  cx : W.ownsRow b0 59 3 (.slice (some ⟨g, 0, none⟩) 3 cap) 3 ((ctxs.map DCtx.cells).flatten)
  len : ctxs.length = 3
  each : ∀ i, i < 3 → RulesAt W b0 (.slice (ctxs.getD i noDCtx).ra (ctxs.getD i noDCtx).rn (ctxs.getD i noDCtx).rc) (ctxs.getD i noDCtx).rules ∧ (ctxs.getD i noDCtx).rules.length ≤ 10 ∧ (ctxs.getD i noDCtx).key = ctxKey i ∧ IncF S g W i (ctxs.getD i noDCtx)
theorem PlG.keeps {S b0 Q P g cap : Nat} {pz : List Value} {hv : Value} {hrs : List Hrs} {ctxs : List DCtx} {W W' : World} (h : PlG S b0 Q P g cap pz hv hrs ctxs W) (hk : Keeps S W W') (hS : S < b0) (hn : Q ≠ S ∧ P ≠ S) : PlG S b0 Q P g cap pz hv hrs ctxs W' := ⟨h.q_.keeps hk hn.1, h.p_.keeps hk hn.2, h.hh.keeps hk hS, own_keeps h.cx hk hS, h.len, fun i hi => ⟨(h.each i hi).1.keeps hk hS, (h.each i hi).2.1, (h.each i hi).2.2.1, (h.each i hi).2.2.2.keeps hk⟩⟩
theorem set_getD {l : List DCtx} {i j : Nat} {x : DCtx} (hj : j < l.length) : (l.set i x).getD j noDCtx = if i = j then x else l.getD j noDCtx := by
  rw [List.getD_eq_getElem?_getD, List.getD_eq_getElem?_getD, List.getElem?_set]
  by_cases h : i = j
  · subst h; simp [hj]
  · simp [h]
theorem flat_setC : ∀ (l : List DCtx) (r : Nat) (y : DCtx) (v : Value), r < l.length → y.cells = ((l.getD r noDCtx).cells).set 2 v → ((l.set r y).map DCtx.cells).flatten = ((l.map DCtx.cells).flatten).set (r * 3 + 2) v
  | c :: cs, 0, y, v, _, hy => by
    have hy' : y.cells = c.cells.set 2 v := hy
    simp only [List.set_cons_zero, List.map_cons, List.flatten_cons, Nat.zero_mul, Nat.zero_add]
    rw [hy', List.set_append_left _ _ (by show 2 < 3; decide)]
  | c :: cs, r + 1, y, v, hr, hy => by
    have ih := flat_setC cs r y v (by simpa using hr) (by simpa using hy)
    simp only [List.set_cons_succ, List.map_cons, List.flatten_cons]
    have e : (DCtx.cells c).length = 3 := rfl
    rw [List.set_append_right _ _ (by rw [e]; omega), e, show (r + 1) * 3 + 2 - 3 = r * 3 + 2 by omega, ih]
/-- A context gets what it includes. -/
theorem PlG.put {S b0 Q P g cap : Nat} {pz : List Value} {hv : Value} {hrs : List Hrs} {ctxs : List DCtx} {W : World} (h : PlG S b0 Q P g cap pz hv hrs ctxs W) (i : Nat) (hi : i < 3) (a : Option Addr) (n c : Nat) (incs : List Nat) (hinc : IncF S g W i ⟨(ctxs.getD i noDCtx).key, (ctxs.getD i noDCtx).ra, (ctxs.getD i noDCtx).rn, (ctxs.getD i noDCtx).rc, (ctxs.getD i noDCtx).rules, a, n, c, incs⟩) : PlG S b0 Q P g cap pz hv hrs (ctxs.set i ⟨(ctxs.getD i noDCtx).key, (ctxs.getD i noDCtx).ra, (ctxs.getD i noDCtx).rn, (ctxs.getD i noDCtx).rc, (ctxs.getD i noDCtx).rules, a, n, c, incs⟩) (W.setCell ⟨g, i * 3 + 2, none⟩ (.slice a n c)) := by
  have hgb : W.grownBy (W.setCell ⟨g, i * 3 + 2, none⟩ (.slice a n c)) (some g) := put_gb g _ _
  have hQg : Q ≠ g := fun e => own_blk h.cx h.q_ (by decide) (by rw [e]; rfl)
  have hPg : P ≠ g := fun e => own_blk h.cx h.p_ (by decide) (by rw [e]; rfl)
  have hot : ∀ {base e s m : Nat} {v : Value} {xs : List Value}, W.ownsRow base e s v m xs → e ≠ 59 → (W.setCell ⟨g, i * 3 + 2, none⟩ (.slice a n c)).ownsRow base e s v m xs := fun hx he => own_gb hx hgb (fun b hb e2 => own_types hx h.cx he b hb (by rw [← e2]; rfl))
  refine ⟨h.q_.far (p := ⟨g, i * 3 + 2, none⟩) (Ne.symm hQg), h.p_.far (p := ⟨g, i * 3 + 2, none⟩) (Ne.symm hPg), ⟨hot h.hh.own (by decide), fun x hx => ⟨hot (h.hh.each x hx).own1 (by decide), hot (h.hh.each x hx).own2 (by decide), (h.hh.each x hx).ok⟩, h.hh.two, h.hh.keys⟩, ?_, by rw [List.length_set]; exact h.len, fun j hj => ?_⟩
  · have e := flat_setC ctxs i ⟨(ctxs.getD i noDCtx).key, (ctxs.getD i noDCtx).ra, (ctxs.getD i noDCtx).rn, (ctxs.getD i noDCtx).rc, (ctxs.getD i noDCtx).rules, a, n, c, incs⟩ (.slice a n c) (by rw [h.len]; exact hi) rfl
    rw [e]
    exact (h.cx.stored _ _).1
  · rw [set_getD (by rw [h.len]; exact hj)]
    by_cases hij : i = j
    · subst hij
      rw [if_pos rfl]
      obtain ⟨e1, e2, e3, _⟩ := h.each i hi
      exact ⟨⟨hot e1.own (by decide), e1.ok, e1.once⟩, e2, e3, hinc.put _ _⟩
    · rw [if_neg hij]
      obtain ⟨e1, e2, e3, e4⟩ := h.each j hj
      exact ⟨⟨hot e1.own (by decide), e1.ok, e1.once⟩, e2, e3, e4.put _ _⟩
theorem PlG.fine {S b0 Q P g cap : Nat} {pz : List Value} {ha : Option Addr} {hn hc : Nat} {hrs : List Hrs} {ctxs : List DCtx} {W : World} (h : PlG S b0 Q P g cap pz (.slice ha hn hc) hrs ctxs W) : DPlanFine W ⟨some ⟨g, 0, none⟩, 3, cap, ctxs, ha, hn, hc, hrs⟩ := by
  obtain ⟨a9, c9, e, hcc⟩ := Cells.of_own h.cx (fun x hx => by obtain ⟨y, _, rfl⟩ := List.mem_map.1 hx; rfl) (by decide)
  injection e with e1 e2 e3
  subst e1
  obtain ⟨hrw, hcp⟩ := h.hh.row
  refine ⟨hcc, h.len, ?_, fun i hi => ?_, fun i hi => (h.each i hi).2.2.1, fun i hi => ?_, hrw, hcp⟩
  · rcases h.cx.2 with ⟨e, h0⟩ | ⟨g', cap', cur, e, _, _, h3, _⟩
    · cases h0
    · injection e with e1 e2 e3
      subst e3
      exact h3
  · obtain ⟨e1, e2, e3, e4⟩ := h.each i hi
    obtain ⟨f1, f2, f3⟩ := e1.row e2
    exact ⟨f1, f3, e4.cells, e4.cap, e1.once⟩
  · obtain ⟨e1, e2, e3, e4⟩ := h.each i hi
    exact ⟨e4.up, e4.once, e4.few⟩
end Go.Proofs.YtkdadbpajhdelaaGreatDoor

set_option linter.unusedVariables false
set_option linter.unusedSimpArgs false
namespace Go.Proofs.YtkdadbpajhdelaaGreatDoor
open Go.RowKit Go.Lib

structure IncU (S g i : Nat) (W : World) (u : Value) : Prop where
  is_ : ∃ (a : Option Addr) (n : Nat) (incs : List Nat), u = .slice a n n ∧ (∀ j ∈ incs, i < j ∧ j < 3) ∧ incs.Nodup ∧ incs.length ≤ 2 ∧ Cells W 1 a n (incs.map incV) ∧ ∀ b o, a = some ⟨b, o, none⟩ → b ≠ S ∧ b ≠ g
theorem IncU.keeps {S g i : Nat} {W W' : World} {u : Value} (h : IncU S g i W u) (hk : Keeps S W W') : IncU S g i W' u := by
  obtain ⟨a, n, incs, e, h1, h2, h3, h4, h5⟩ := h.is_
  exact ⟨a, n, incs, e, h1, h2, h3, cells_keep h4 hk.size (fun b o e hb => hk.block b hb (h5 b o e).1), h5⟩
theorem incU_nil (S g i : Nat) (W : World) : IncU S g i W (.slice none 0 0) := ⟨none, 0, [], rfl, (fun j hj => (by cases hj)), List.nodup_nil, by decide, ⟨rfl, Or.inl rfl⟩, (fun b o e => (by cases e))⟩
theorem key1 : ctxKey 1 = [99, 98] := by decide
theorem key2 : ctxKey 2 = [99, 99] := by decide
theorem incU_one (S g i : Nat) (w : World) (x : Nat) (s : List UInt8) (hs : ctxKey x = s) (hx : i < x ∧ x < 3) (hS : S < w.heap.size) (hg : g < w.heap.size) : IncU S g i (w.alloc (.cells #[.string ⟨s.toArray⟩] 9)) (.slice (some ⟨w.heap.size, 0, none⟩) 1 1) := by
  refine ⟨_, 1, [x], rfl, fun j hj => by rw [List.mem_singleton.1 hj]; exact hx, by simp, by simp, ⟨rfl, Or.inr ⟨w.heap.size, 0, rfl, by simp, fun a ha b hb => ?_⟩⟩, fun b o e => by injection e with e; injection e with e1 e2; exact ⟨by omega, by omega⟩⟩
  obtain rfl : a = 0 := by omega
  obtain rfl : b = 0 := by omega
  rw [← hs]
  exact (Blk.new w [.string ⟨(ctxKey x).toArray⟩] 9).cell 0 rfl
theorem incU_two (S g i : Nat) (w : World) (x y : Nat) (s t : List UInt8) (hs : ctxKey x = s) (ht : ctxKey y = t) (hx : i < x ∧ x < 3) (hy : i < y ∧ y < 3) (hne : x ≠ y) (hS : S < w.heap.size) (hg : g < w.heap.size) : IncU S g i (w.alloc (.cells #[.string ⟨s.toArray⟩, .string ⟨t.toArray⟩] 9)) (.slice (some ⟨w.heap.size, 0, none⟩) 2 2) := by
  have hB := Blk.new w [.string ⟨(ctxKey x).toArray⟩, .string ⟨(ctxKey y).toArray⟩] 9
  refine ⟨_, 2, [x, y], rfl, fun j hj => by
    simp only [List.mem_cons, List.not_mem_nil, or_false] at hj
    rcases hj with rfl | rfl
    · exact hx
    · exact hy, by simp [hne], by simp, ⟨rfl, Or.inr ⟨w.heap.size, 0, rfl, by simp, fun a ha b hb => ?_⟩⟩, fun b o e => by injection e with e; injection e with e1 e2; exact ⟨by omega, by omega⟩⟩
  obtain rfl : b = 0 := by omega
  rw [← hs, ← ht]
  match a, ha with
  | 0, _ => exact hB.cell 0 rfl
  | 1, _ => exact hB.cell 1 rfl
structure TabU (S g i m : Nat) (W : World) (v : Value) : Prop where
  is_ : ∃ B, v = .slice (some ⟨B, 0, none⟩) m m ∧ B ≠ S ∧ B < W.heap.size ∧ ∀ z, z < m → ∃ u, W.cell? ⟨B, z, none⟩ = some u ∧ IncU S g i W u
theorem TabU.keeps {S g i m : Nat} {W W' : World} {v : Value} (h : TabU S g i m W v) (hk : Keeps S W W') : TabU S g i m W' v := by
  obtain ⟨B, e, h1, h2, h3⟩ := h.is_
  exact ⟨B, e, h1, Nat.lt_of_lt_of_le h2 hk.size, fun z hz => by
    obtain ⟨u, hu, hi⟩ := h3 z hz
    exact ⟨u, (hk.cell (p := ⟨B, z, none⟩) h2 h1).trans hu, hi.keeps hk⟩⟩
structure PtrU (S g i : Nat) (W : World) (v : Value) : Prop where
  is_ : ∃ B z u, v = .pointer (some ⟨B, z, none⟩) ∧ B ≠ S ∧ B < W.heap.size ∧ W.cell? ⟨B, z, none⟩ = some u ∧ IncU S g i W u
theorem PtrU.keeps {S g i : Nat} {W W' : World} {v : Value} (h : PtrU S g i W v) (hk : Keeps S W W') : PtrU S g i W' v := by
  obtain ⟨B, z, u, e, h1, h2, h3, h4⟩ := h.is_
  exact ⟨B, z, u, e, h1, Nat.lt_of_lt_of_le h2 hk.size, (hk.cell (p := ⟨B, z, none⟩) h2 h1).trans h3, h4.keeps hk⟩
end Go.Proofs.YtkdadbpajhdelaaGreatDoor

set_option linter.unusedVariables false
set_option linter.unusedSimpArgs false
namespace Go.Proofs.YtkdadbpajhdelaaGreatDoor
open Go.RowKit Go.Lib

theorem Tryz.dplanSz : (Tryz.prog.info? 29).map (·.size) = some 2 := by kernel_rfl
theorem inc_ne {S g i : Nat} {W : World} {c : DCtx} (h : IncF S g W i c) {Q : Nat} {a1 a2 : Option Addr} {n1 n2 c1 c2 : Nat} {ty : TypeId} (hq : Blk W Q [.slice a1 n1 c1, .slice a2 n2 c2] ty) (hn : 0 < c.inn) : ∀ b o, c.ia = some ⟨b, o, none⟩ → b ≠ Q := by
  intro b o e hb
  subst hb
  have hl := h.cells.len1
  rcases h.cells.row with h0 | ⟨b', off, e', _, hc⟩
  · omega
  · rw [e] at e'
    injection e' with e'
    injection e' with e1 e2
    subst e1 e2
    have h1 := hc 0 hn 0 (by decide)
    rw [getD_map incV c.incs 0 0 [] (by omega)] at h1
    have h2 : (some (Value.string ⟨(ctxKey (c.incs.getD 0 0)).toArray⟩) : Option Value) = [Value.slice a1 n1 c1, Value.slice a2 n2 c2][o + 0 * 1 + 0]? := by
      have h3 : W.cell? ⟨b, o + 0 * 1 + 0, none⟩ = [Value.slice a1 n1 c1, Value.slice a2 n2 c2][o + 0 * 1 + 0]? := by
        simp [World.cell?, hq.at_]
      rw [← h3, h1]
      rfl
    match o, h2 with
    | 0, h2 => cases h2
    | 1, h2 => cases h2
    | o + 2, h2 => cases h2
theorem PlG.last {S b0 Q P g cap : Nat} {hv : Value} {hrs : List Hrs} {ctxs : List DCtx} {W : World} (h : PlG S b0 Q P g cap [.slice none 0 0, .slice none 0 0] hv hrs ctxs W) (hPQ : P ≠ Q) (x y : Value) : PlG S b0 Q P g cap [x, y] hv hrs ctxs (W.setCells Q 0 [x, y]) := by
  have hgb : W.grownBy (W.setCells Q 0 [x, y]) (some Q) := setCells_gb Q [x, y] 0
  have hot : ∀ {base e s m : Nat} {v : Value} {xs : List Value}, W.ownsRow base e s v m xs → e ≠ 29 → (W.setCells Q 0 [x, y]).ownsRow base e s v m xs := fun hx he => own_gb hx hgb (fun b hb e2 => own_blk hx h.q_ he (by rw [hb, e2]))
  refine ⟨(h.q_.put 0 x).put 1 y, h.p_.grown hgb (fun e => hPQ (Option.some.inj e).symm), ⟨hot h.hh.own (by decide), fun z hz => ⟨hot (h.hh.each z hz).own1 (by decide), hot (h.hh.each z hz).own2 (by decide), (h.hh.each z hz).ok⟩, h.hh.two, h.hh.keys⟩, hot h.cx (by decide), h.len, fun i hi => ?_⟩
  obtain ⟨e1, e2, e3, e4⟩ := h.each i hi
  refine ⟨⟨hot e1.own (by decide), e1.ok, e1.once⟩, e2, e3, ⟨e4.up, e4.once, e4.few, e4.cap, ?_, e4.off_⟩⟩
  by_cases hn : 0 < (ctxs.getD i noDCtx).inn
  · exact cells_keep e4.cells hgb.size (fun b o e hb => hgb.block b hb (fun e2 => inc_ne e4 h.q_ hn b o e (Option.some.inj e2)))
  · exact ⟨e4.cells.len, Or.inl (by omega)⟩
end Go.Proofs.YtkdadbpajhdelaaGreatDoor

set_option linter.unusedVariables false
set_option linter.unusedSimpArgs false
namespace Go.Proofs.YtkdadbpajhdelaaGreatDoor
open Go.RowKit Go.Lib

def sameR (x r : DRule) : Bool := decide (x.els.str = r.els.str ∧ x.hours = r.hours)
theorem sameR_is (a b c d : List UInt8) : decide (a = b ∧ c = d) = ((a == b) && (c == d)) := by
  by_cases h1 : a = b <;> by_cases h2 : c = d <;> simp [h1, h2]
theorem wp_valR {P : Program} {o : Oper} {a : Act} {w w2 : World} {v : Value} {K : Act → World → Prop} {Q : Exit → Act → World → Prop} (h : (execOp a.eval o).run P w = .ok (.value v) w2) (hK : K (a.put o.dst v) w2) : Oper.wp P o a w K Q := by
  unfold Oper.wp; rw [h]; exact hK
theorem Tryz.infoRuleP : (Tryz.prog.info? 62).map (fun i => (i.zero, i.size, i.bytes)) = some (some (.agg #[.string ⟨#[]⟩, .int .i64 0, .string ⟨#[]⟩, .int .i64 0, .string ⟨#[]⟩, .string ⟨#[]⟩]), 6, 80) := by kernel_rfl
theorem bl_drp0 (e : Operand → Value) (he : ∀ v, e (.const v) = v) (o : Oper) (w : World) (i0 : Nat) (p0_0 : ByteArray) (a0_1 : Option Addr) (n0_1 : Nat) (m0_1 : Nat) (a0_2 : Option Addr) (n0_2 : Nat) (m0_2 : Nat) (ho : o.op = .buildSlice 26 1 #[(0, .tmp i0)]) (h0 : e (.tmp i0) = .agg #[.string p0_0, .slice a0_1 n0_1 m0_1, .slice a0_2 n0_2 m0_2]) :
   (execOp e o).run Tryz.prog w = .ok (.value (.slice (some ⟨w.heap.size, 0, none⟩) 1 1)) (w.alloc (.cells #[.string p0_0, .slice a0_1 n0_1 m0_1, .slice a0_2 n0_2 m0_2] 59)) := by
  unfold execOp
  rw [ho]
  simp only [List.map_toArray, List.map_cons, List.map_nil, h0]
  kernel_rfl
theorem bl_drp1 (e : Operand → Value) (he : ∀ v, e (.const v) = v) (o : Oper) (w : World) (i0 : Nat) (p0_0 : ByteArray) (z0_1 : Int) (p0_2 : ByteArray) (z0_3 : Int) (p0_4 : ByteArray) (p0_5 : ByteArray) (ho : o.op = .buildSlice 57 1 #[(0, .tmp i0)]) (h0 : e (.tmp i0) = .agg #[.string p0_0, .int .i64 z0_1, .string p0_2, .int .i64 z0_3, .string p0_4, .string p0_5]) :
   (execOp e o).run Tryz.prog w = .ok (.value (.slice (some ⟨w.heap.size, 0, none⟩) 1 1)) (w.alloc (.cells #[.string p0_0, .int .i64 z0_1, .string p0_2, .int .i64 z0_3, .string p0_4, .string p0_5] 62)) := by
  unfold execOp
  rw [ho]
  simp only [List.map_toArray, List.map_cons, List.map_nil, h0]
  kernel_rfl
theorem bl_drp2 (e : Operand → Value) (he : ∀ v, e (.const v) = v) (o : Oper) (w : World)  (p0 : ByteArray) (ho : o.op = .buildSlice 33 1 #[(0, .const (.string p0))])  :
   (execOp e o).run Tryz.prog w = .ok (.value (.slice (some ⟨w.heap.size, 0, none⟩) 1 1)) (w.alloc (.cells #[.string p0] 9)) := by
  unfold execOp
  rw [ho]
  simp only [List.map_toArray, List.map_cons, List.map_nil, he]
  kernel_rfl
theorem bl_drp3 (e : Operand → Value) (he : ∀ v, e (.const v) = v) (o : Oper) (w : World)  (p0 : ByteArray) (p1 : ByteArray) (ho : o.op = .buildSlice 33 2 #[(0, .const (.string p0)), (1, .const (.string p1))])  :
   (execOp e o).run Tryz.prog w = .ok (.value (.slice (some ⟨w.heap.size, 0, none⟩) 2 2)) (w.alloc (.cells #[.string p0, .string p1] 9)) := by
  unfold execOp
  rw [ho]
  simp only [List.map_toArray, List.map_cons, List.map_nil, he]
  kernel_rfl
theorem bl_drp4 (e : Operand → Value) (he : ∀ v, e (.const v) = v) (o : Oper) (w : World) (i1 : Nat) (i2 : Nat) (i3 : Nat) (a0 : Option Addr) (n0 : Nat) (m0 : Nat) (a1 : Option Addr) (n1 : Nat) (m1 : Nat) (a2 : Option Addr) (n2 : Nat) (m2 : Nat) (a3 : Option Addr) (n3 : Nat) (m3 : Nat) (ho : o.op = .buildSlice 66 4 #[(0, .const (.slice a0 n0 m0)), (1, .tmp i1), (2, .tmp i2), (3, .tmp i3)]) (h1 : e (.tmp i1) = .slice a1 n1 m1) (h2 : e (.tmp i2) = .slice a2 n2 m2) (h3 : e (.tmp i3) = .slice a3 n3 m3) :
   (execOp e o).run Tryz.prog w = .ok (.value (.slice (some ⟨w.heap.size, 0, none⟩) 4 4)) (w.alloc (.cells #[.slice a0 n0 m0, .slice a1 n1 m1, .slice a2 n2 m2, .slice a3 n3 m3] 33)) := by
  unfold execOp
  rw [ho]
  simp only [List.map_toArray, List.map_cons, List.map_nil, he, h1, h2, h3]
  kernel_rfl
theorem bl_drp5 (e : Operand → Value) (he : ∀ v, e (.const v) = v) (o : Oper) (w : World) (i1 : Nat) (a0 : Option Addr) (n0 : Nat) (m0 : Nat) (a1 : Option Addr) (n1 : Nat) (m1 : Nat) (ho : o.op = .buildSlice 66 2 #[(0, .const (.slice a0 n0 m0)), (1, .tmp i1)]) (h1 : e (.tmp i1) = .slice a1 n1 m1) :
   (execOp e o).run Tryz.prog w = .ok (.value (.slice (some ⟨w.heap.size, 0, none⟩) 2 2)) (w.alloc (.cells #[.slice a0 n0 m0, .slice a1 n1 m1] 33)) := by
  unfold execOp
  rw [ho]
  simp only [List.map_toArray, List.map_cons, List.map_nil, he, h1]
  kernel_rfl
theorem bl_drp6 (e : Operand → Value) (he : ∀ v, e (.const v) = v) (o : Oper) (w : World)  (p0 : ByteArray) (p1 : ByteArray) (p2 : ByteArray) (ho : o.op = .buildSlice 33 3 #[(0, .const (.string p0)), (1, .const (.string p1)), (2, .const (.string p2))])  :
   (execOp e o).run Tryz.prog w = .ok (.value (.slice (some ⟨w.heap.size, 0, none⟩) 3 3)) (w.alloc (.cells #[.string p0, .string p1, .string p2] 9)) := by
  unfold execOp
  rw [ho]
  simp only [List.map_toArray, List.map_cons, List.map_nil, he]
  kernel_rfl
set_option maxRecDepth 100000 in
set_option maxHeartbeats 4000000 in
theorem same_call (x r : DRule) (B : Nat) (W : World) (hB : Blk W B r.cells 62) : Calls Tryz.prog 23 #[.agg x.cells.toArray, .pointer (some ⟨B, 0, none⟩)] W (BoolP (sameR x r) W) := by
  have hlt := hB.lt
  have h0 := hB.cell 0 rfl
  have h5 := hB.cell 5 rfl
  have HSR : Hid (sameR x r = decide (x.els.str = r.els.str ∧ x.hours = r.hours)) := rfl
  clear hB
  generalize sameR x r = res at HSR ⊢
  obtain ⟨xe, xn, xp, xt, xm, xh⟩ := x
  obtain ⟨re, rn, rp, rt, rm, rh⟩ := r
  unfold DRule.cells
  simp only at h0 h5 HSR ⊢
  generalize xe.str = xs at HSR ⊢
  generalize re.str = rs at HSR h0
  have hne : B ≠ W.heap.size := by omega
  have X1 : Hid (Blk (W.alloc (.cells #[.string ⟨xs.toArray⟩, .int .i64 xn, .string ⟨xp.toArray⟩, .int .i64 xt, .string ⟨xm.toArray⟩, .string ⟨xh.toArray⟩] 62)) W.heap.size [.string ⟨xs.toArray⟩, .int .i64 xn, .string ⟨xp.toArray⟩, .int .i64 xt, .string ⟨xm.toArray⟩, .string ⟨xh.toArray⟩] 62) := Blk.new W _ _
  have HB1 : Hid (Below W.heap.size W (W.alloc (.cells #[.string ⟨xs.toArray⟩, .int .i64 xn, .string ⟨xp.toArray⟩, .int .i64 xt, .string ⟨xm.toArray⟩, .string ⟨xh.toArray⟩] 62))) := ext_alloc (Below.refl _ _)
  have g0 := (HB1.out.cell (p := ⟨B, 0, none⟩) hlt).trans h0
  have g5 := (HB1.out.cell (p := ⟨B, 5, none⟩) hlt).trans h5
  clear h0 h5
  go_enter Tryz.func23, Tryz.ntmps23
  go_upto_region 1 with (fail)
  generalize W.alloc (.cells #[.string ⟨xs.toArray⟩, .int .i64 xn, .string ⟨xp.toArray⟩, .int .i64 xt, .string ⟨xm.toArray⟩, .string ⟨xh.toArray⟩] 62) = w1 at X1 HB1 g0 g5 ⊢
  generalize W.heap.size = X at X1 ⊢
  have x0 := X1.out.cell 0 rfl
  have x5 := X1.out.cell 5 rfl
  by_cases h1 : xs = rs
  · subst h1
    by_cases h2 : xh = rh
    · subst h2
      obtain rfl : res = true := by rw [HSR.out]; simp
      go_wp2_with fail
      go_ret
      exact ⟨rfl, HB1.out⟩
    · obtain rfl : res = false := by rw [HSR.out]; simp [h2]
      have hb2 : (xh == rh) = false := beq_eq_false_iff_ne.2 h2
      clear h2
      go_wp2_with fail
      go_ret
      exact ⟨by first | rfl | (rw [hb2]), HB1.out⟩
  · obtain rfl : res = false := by rw [HSR.out]; simp [h1]
    have hb1 : (xs == rs) = false := beq_eq_false_iff_ne.2 h1
    clear h1
    go_wp2_with fail
    go_ret
    exact ⟨by first | rfl | (rw [hb1]), HB1.out⟩
theorem same_pred (r : DRule) (B : Nat) (w : World) (hB : Blk w B r.cells 62) : PredBelow Tryz.prog 23 #[.pointer (some ⟨B, 0, none⟩)] (fun x : DRule => .agg (DRule.cells x).toArray) (fun x => sameR x r) w := fun W x hb =>
  (same_call x r B W (hB.below hb)).mono fun e w' h => ⟨h.1, ext_trans hb h.2⟩
/-- A plan in the making: the boxes, the keys, the hours, and the contexts so far. -/
structure PlW (b0 Q P KB q : Nat) (va hv : Value) (hrs : List Hrs) (ctxs : List DCtx) (W : World) : Prop where
  q_ : Blk W Q [.slice none 0 0, .slice none 0 0] 29
  p_ : Blk W P [va, hv] 29
  kb : Blk W KB [.string ⟨#[99, 97]⟩, .string ⟨#[99, 98]⟩, .string ⟨#[99, 99]⟩] 9
  hh : HrsAt W b0 hv hrs
  cx : W.ownsRow b0 59 3 va q ((ctxs.map DCtx.cells).flatten)
  len : ctxs.length = q
  each : ∀ i, i < q → RulesAt W b0 (.slice (ctxs.getD i noDCtx).ra (ctxs.getD i noDCtx).rn (ctxs.getD i noDCtx).rc) (ctxs.getD i noDCtx).rules ∧ (ctxs.getD i noDCtx).rules.length ≤ 10 ∧ (ctxs.getD i noDCtx).key = ctxKey i ∧ (ctxs.getD i noDCtx).ia = none ∧ (ctxs.getD i noDCtx).inn = 0 ∧ (ctxs.getD i noDCtx).ic = 0 ∧ (ctxs.getD i noDCtx).incs = []
theorem PlW.keeps {S b0 Q P KB q : Nat} {va hv : Value} {hrs : List Hrs} {ctxs : List DCtx} {W W' : World} (h : PlW b0 Q P KB q va hv hrs ctxs W) (hk : Keeps S W W') (hS : S < b0) (hn : Q ≠ S ∧ P ≠ S ∧ KB ≠ S) : PlW b0 Q P KB q va hv hrs ctxs W' := ⟨h.q_.keeps hk hn.1, h.p_.keeps hk hn.2.1, h.kb.keeps hk hn.2.2, h.hh.keeps hk hS, own_keeps h.cx hk hS, h.len, fun i hi => ⟨(h.each i hi).1.keeps hk hS, (h.each i hi).2⟩⟩
theorem rules_grown {W W' : World} {base b2 : Nat} {v v2 : Value} {n s : Nat} {e : TypeId} {ys : List Value} {l : List DRule} (h : RulesAt W base v l) (h2 : W.ownsRow b2 e s v2 n ys) (he : 62 ≠ e) (hg : W.grownBy W' v2.ownBlock) : RulesAt W' base v l := ⟨own_grown h.own h2 he hg, h.ok, h.once⟩
/-- One context more. -/
theorem PlW.push {b0 Q P KB q : Nat} {va va' hv : Value} {hrs : List Hrs} {ctxs : List DCtx} {W W8 W9 : World} {c : DCtx} (h : PlW b0 Q P KB q va hv hrs ctxs W) (hW : Below W.heap.size W W8) (hg : W8.grownBy W9 va.ownBlock) (ho : W9.ownsRow b0 59 3 va' (q + 1) ((ctxs.map DCtx.cells).flatten ++ c.cells)) (hc : RulesAt W8 b0 (.slice c.ra c.rn c.rc) c.rules ∧ c.rules.length ≤ 10 ∧ c.key = ctxKey q ∧ c.ia = none ∧ c.inn = 0 ∧ c.ic = 0 ∧ c.incs = []) (hPQ : P ≠ Q ∧ P ≠ KB) (hb0 : b0 ≤ P) : PlW b0 Q P KB (q + 1) va' hv hrs (ctxs ++ [c]) (W9.setCell ⟨P, 0, none⟩ va') := by
  have ox := own_more h.cx hW
  have k1 : Blk W9 Q [.slice none 0 0, .slice none 0 0] 29 := (h.q_.below hW).grown hg (own_blk ox (h.q_.below hW) (by decide))
  have k2 : Blk W9 P [va, hv] 29 := (h.p_.below hW).grown hg (own_blk ox (h.p_.below hW) (by decide))
  have k3 : Blk W9 KB [.string ⟨#[99, 97]⟩, .string ⟨#[99, 98]⟩, .string ⟨#[99, 99]⟩] 9 := (h.kb.below hW).grown hg (own_blk ox (h.kb.below hW) (by decide))
  have hh8 : HrsAt W8 b0 hv hrs := ⟨own_more h.hh.own hW, fun x hx => (h.hh.each x hx).below hW, h.hh.two, h.hh.keys⟩
  have hh9 : HrsAt W9 b0 hv hrs := ⟨own_grown hh8.own ox (by decide) hg, fun x hx => (hh8.each x hx).other ox (by decide) (by decide) hg, hh8.two, hh8.keys⟩
  have hbP : W9.grownBy (W9.setCell ⟨P, 0, none⟩ va') (some P) := setCells_gb P [va'] 0
  have hot : ∀ {base e s n : Nat} {v : Value} {xs : List Value}, W9.ownsRow base e s v n xs → e ≠ 29 → (W9.setCell ⟨P, 0, none⟩ va').ownsRow base e s v n xs := fun hx he => own_gb hx hbP (fun b hb e2 => own_blk hx k2 he (by rw [hb, e2]))
  refine ⟨k1.far (p := ⟨P, 0, none⟩) hPQ.1, k2.put 0 _, k3.far (p := ⟨P, 0, none⟩) hPQ.2, ⟨hot hh9.own (by decide), fun x hx => ⟨hot (hh9.each x hx).own1 (by decide), hot (hh9.each x hx).own2 (by decide), (hh9.each x hx).ok⟩, hh9.two, hh9.keys⟩, ?_, by rw [List.length_append, h.len]; rfl, fun i hi => ?_⟩
  · rw [List.map_append, List.flatten_append]
    have e : ([c].map DCtx.cells).flatten = c.cells := by simp
    rw [e]
    exact hot ho (by decide)
  · by_cases hiq : i < q
    · have e : (ctxs ++ [c]).getD i noDCtx = ctxs.getD i noDCtx := by rw [List.getD_eq_getElem?_getD, List.getElem?_append_left (by rw [h.len]; exact hiq), ← List.getD_eq_getElem?_getD]
      rw [e]
      obtain ⟨e1, e2⟩ := h.each i hiq
      have e3 := rules_grown (e1.below hW) ox (by decide) hg
      exact ⟨⟨hot e3.own (by decide), e3.ok, e3.once⟩, e2⟩
    · have hiq2 : i = q := by omega
      subst hiq2
      have e : (ctxs ++ [c]).getD i noDCtx = c := by rw [List.getD_eq_getElem?_getD, List.getElem?_append_right (by rw [h.len]; exact Nat.le_refl _), h.len, Nat.sub_self]; rfl
      rw [e]
      have e3 := rules_grown hc.1 ox (by decide) hg
      exact ⟨⟨hot e3.own (by decide), e3.ok, e3.once⟩, hc.2⟩
theorem keeps_up {S : Nat} {a w w' : World} (h : Keeps S a w) (b : Below a.heap.size w w') : Keeps S a w' := ⟨b.os.trans h.os, b.tape.trans h.tape, b.output.trans h.output, Nat.le_trans h.size b.size, fun k hk hn => (b.block k hk).trans (h.block k hk hn)⟩
def DplPost (S k : Nat) (w : World) (e : Ending) (w' : World) : Prop := ∃ p : DPlan, e = .returned (.agg p.cells.toArray) ∧ (∀ W, Keeps S w' W → DPlanFine W p) ∧ StreamOk w' S k ∧ Keeps S w w'
set_option maxRecDepth 100000 in
set_option maxHeartbeats 8000000 in
theorem rightPlan_any (S k : Nat) (most : Nat) (hmo : most ≤ 4) (w : World) (h : StreamOk w S k) (hk : k ≤ 500000) : Calls Tryz.prog 5 #[.pointer (some ⟨S, 0, none⟩), .int .i64 most] w (DplPost S (k + 400) w) := by
  obtain ⟨i1, hi1, hy0, hy1, hy2⟩ := info_parts Tryz.infoCtxO
  obtain ⟨i2, hi2, hx0, hx1, hx2⟩ := info_parts Tryz.infoRuleP
  have hSw := h.lt
  have HS1 : Hid (StreamOk (w.alloc (.cells #[.slice none 0 0, .slice none 0 0] 29)) S k) := h.below (ext_alloc (Below.refl _ _))
  have HK1 : Hid (Keeps S w (w.alloc (.cells #[.slice none 0 0, .slice none 0 0] 29))) := Keeps.of_below (ext_alloc (Below.refl _ _))
  have Q1 : Hid (Blk (w.alloc (.cells #[.slice none 0 0, .slice none 0 0] 29)) w.heap.size [.slice none 0 0, .slice none 0 0] 29) := Blk.new w _ _
  have hQ1 : w.heap.size < (w.alloc (.cells #[.slice none 0 0, .slice none 0 0] 29)).heap.size := by simp
  clear h
  go_enter Tryz.func5, Tryz.ntmps5
  go_upto_region 1 with (fail)
  generalize (w.alloc (.cells #[.slice none 0 0, .slice none 0 0] 29)) = w1 at HS1 HK1 Q1 hQ1 ⊢
  obtain ⟨Q, hQ⟩ : ∃ Q, Q = w.heap.size := ⟨_, rfl⟩
  rw [← hQ] at Q1 hQ1
  simp only [← hQ]
  have hbQ : w.heap.size ≤ Q := by omega
  have hSQ1 : S + 1 ≤ Q := by omega
  have hw1 : w.heap.size ≤ w1.heap.size := by omega
  clear hQ
  as_aux_lemma =>
    go_wp2_with fail
    refine (rightHours_any S k _ HS1.out (by omega)).mono ?_
    rintro e w2 ⟨hv, hrs, rfl, hl2, hat⟩
    have hown := hat.own
    rw [hl2] at hown
    obtain ⟨hg, hc, rfl⟩ : ∃ g c, hv = .slice (some ⟨g, 0, none⟩) 2 c := by
      rcases shape_own hown with ⟨h0, _⟩ | ⟨g, c, e, _⟩
      · omega
      · exact ⟨g, c, e⟩
    have HS2 := Lib.hid hat.stream
    have HK2 := Lib.hid (HK1.out.trans hat.keeps)
    have Q2 := Lib.hid (Q1.out.keeps hat.keeps (by omega))
    have HH2 : Hid (HrsAt w2 w.heap.size (.slice (some ⟨hg, 0, none⟩) 2 hc) hrs) := ⟨own_lower hat.own (by omega), fun x hx => ⟨own_lower (hat.each x hx).own1 (by omega), own_lower (hat.each x hx).own2 (by omega), (hat.each x hx).ok⟩, hl2, fun i hi => by
      have := hat.keys i (by rw [hl2]; exact hi)
      rw [List.getElem?_map, List.getElem?_eq_getElem (by rw [hl2]; exact hi)] at this
      rw [List.getD_eq_getElem?_getD, List.getElem?_eq_getElem (by rw [hl2]; exact hi)]
      exact Option.some.inj this⟩
    clear hown hat HS1 HK1 Q1
    have hw2 : w.heap.size ≤ w2.heap.size := HK2.out.size
    have hQ2 : Q < w2.heap.size := Q2.out.lt
    have P3 : Hid (Blk ((w2.alloc (.cells #[.slice none 0 0, .slice (some ⟨hg, 0, none⟩) 2 hc] 29)).alloc (.cells #[.string ⟨#[99, 97]⟩, .string ⟨#[99, 98]⟩, .string ⟨#[99, 99]⟩] 9)) w2.heap.size [.slice none 0 0, .slice (some ⟨hg, 0, none⟩) 2 hc] 29) := (Blk.new w2 _ _).alloc _
    have KB3 : Hid (Blk ((w2.alloc (.cells #[.slice none 0 0, .slice (some ⟨hg, 0, none⟩) 2 hc] 29)).alloc (.cells #[.string ⟨#[99, 97]⟩, .string ⟨#[99, 98]⟩, .string ⟨#[99, 99]⟩] 9)) (w2.heap.size + 1) [.string ⟨#[99, 97]⟩, .string ⟨#[99, 98]⟩, .string ⟨#[99, 99]⟩] 9) := by
      have := Blk.new (w2.alloc (.cells #[.slice none 0 0, .slice (some ⟨hg, 0, none⟩) 2 hc] 29)) [.string ⟨#[99, 97]⟩, .string ⟨#[99, 98]⟩, .string ⟨#[99, 99]⟩] 9
      rw [show (w2.alloc (.cells #[.slice none 0 0, .slice (some ⟨hg, 0, none⟩) 2 hc] 29)).heap.size = w2.heap.size + 1 by simp] at this
      exact this
    have hA : Below w2.heap.size w2 ((w2.alloc (.cells #[.slice none 0 0, .slice (some ⟨hg, 0, none⟩) 2 hc] 29)).alloc (.cells #[.string ⟨#[99, 97]⟩, .string ⟨#[99, 98]⟩, .string ⟨#[99, 99]⟩] 9)) := ext_alloc (ext_alloc (Below.refl _ _))
    have HS3 := Lib.hid (HS2.out.below hA)
    have HK3 := Lib.hid (HK2.out.trans (Keeps.of_below hA))
    have PL3 : Hid (PlW w.heap.size Q w2.heap.size (w2.heap.size + 1) 0 (.slice none 0 0) (.slice (some ⟨hg, 0, none⟩) 2 hc) hrs [] ((w2.alloc (.cells #[.slice none 0 0, .slice (some ⟨hg, 0, none⟩) 2 hc] 29)).alloc (.cells #[.string ⟨#[99, 97]⟩, .string ⟨#[99, 98]⟩, .string ⟨#[99, 99]⟩] 9))) := ⟨Q2.out.below hA, P3.out, KB3.out, ⟨own_more HH2.out.own hA, fun x hx => (HH2.out.each x hx).below hA, HH2.out.two, HH2.out.keys⟩, World.ownsRow_nil _ _ _ _, rfl, fun i hi => by omega⟩
    have hPK : w2.heap.size ≠ Q ∧ w2.heap.size ≠ w2.heap.size + 1 := ⟨by omega, by omega⟩
    clear hA HS2 HK2 Q2 HH2 P3 KB3
    as_aux_lemma =>
      go_upto_region 3 with ((refine wpList_val rfl (bl_drp6 _ (fun _ => rfl) _ _  ⟨#[99, 97]⟩ ⟨#[99, 98]⟩ ⟨#[99, 99]⟩ rfl) ?_))
      generalize ((w2.alloc (.cells #[.slice none 0 0, .slice (some ⟨hg, 0, none⟩) 2 hc] 29)).alloc (.cells #[.string ⟨#[99, 97]⟩, .string ⟨#[99, 98]⟩, .string ⟨#[99, 99]⟩] 9)) = w3 at HS3 HK3 PL3 ⊢
      obtain ⟨KB, hKB⟩ : ∃ x, x = w2.heap.size + 1 := ⟨_, rfl⟩
      obtain ⟨P, hP⟩ : ∃ x, x = w2.heap.size := ⟨_, rfl⟩
      rw [← hKB] at PL3 hPK
      rw [← hP] at PL3 hPK
      simp only [← hKB]
      simp only [← hP]
      have hns : Q ≠ S ∧ P ≠ S ∧ KB ≠ S := ⟨by omega, by omega, by omega⟩
      have hbP : w.heap.size ≤ P := by omega
      clear hKB hP
      go_loopw [15] (fun it wr => ∃ q : Nat, q ≤ 3 ∧ it = .int .i64 q ∧ ∃ va ctxs, Hid (PlW w.heap.size Q P KB q va (.slice (some ⟨hg, 0, none⟩) 2 hc) hrs ctxs wr) ∧ Hid (StreamOk wr S (k + 40 + 100 * q)) ∧ Hid (Keeps S w wr)) (fun it _ => 3 - (intOf it).toNat)
      case atStart => exact ⟨0, by omega, rfl, _, _, PL3, HS3, HK3⟩
      case round =>
        obtain ⟨q, hq, rfl, va, ctxs, PLq, HSq, HKq⟩ := hrel
        clear PL3 HS3 HK3
        obtain ⟨w0, rfl⟩ : ∃ x : World, x = wr := ⟨_, rfl⟩
        by_cases hlq : q < 3
        case neg =>
          obtain rfl : q = 3 := by omega
          obtain ⟨g, c9, rfl, hgw⟩ : ∃ g c, va = .slice (some ⟨g, 0, none⟩) 3 c ∧ w.heap.size ≤ g := by
            rcases shape_own PLq.out.cx with ⟨h0, _⟩ | ⟨g, c, e, h1, _⟩
            · cases h0
            · exact ⟨g, c, e, h1⟩
          have hgl : g < w0.heap.size := by
            rcases shape_own PLq.out.cx with ⟨h0, _⟩ | ⟨g, c, e, _, h1⟩
            · cases h0
            · injection e with e; injection e with e; injection e with e; rw [e]; exact h1
          have G0 : Hid (PlG S w.heap.size Q P g c9 [.slice none 0 0, .slice none 0 0] (.slice (some ⟨hg, 0, none⟩) 2 hc) hrs ctxs w0) := ⟨PLq.out.q_, PLq.out.p_, PLq.out.hh, PLq.out.cx, PLq.out.len, fun i hi => by
            obtain ⟨e1, e2, e3, e4, e5, e6, e7⟩ := PLq.out.each i hi
            refine ⟨e1, e2, e3, ⟨(by rw [e7]; intro j hj; cases hj), (by rw [e7]; exact List.nodup_nil), (by rw [e7]; decide), (by rw [e5, e6]; exact Nat.le_refl _), ?_, (by rw [e4]; intro b o e; cases e)⟩⟩
            rw [e4, e5, e7]
            exact ⟨rfl, Or.inl rfl⟩⟩
          have hqn : ¬ ((3 : Nat) : Int) < 3 := by decide
          have hSb : S < w.heap.size := hSw
          have hPl : P < w0.heap.size := PLq.out.p_.lt
          have hSl : S < w0.heap.size := by omega
          have p0 := G0.out.p_.cell 0 rfl
          clear PLq hlq hq
          have HSx := HSq
          have HKx := HKq
          have Gx := G0
          clear HSq HKq G0
          as_aux_lemma =>
            go_upto_region 14 with (fail)
            go_cut [5] (fun v5 wx => v5 = .pointer (some ⟨P, 0, none⟩) ∧ ∃ ctxs2, Hid (PlG S w.heap.size Q P g c9 [.slice none 0 0, .slice none 0 0] (.slice (some ⟨hg, 0, none⟩) 2 hc) hrs ctxs2 wx) ∧ Hid (StreamOk wx S (k + 40 + 100 * 3 + 1)) ∧ Hid (Keeps S w wx))
            case first =>
              refine region_all S (k + 40 + 100 * 3) 1 10 0 [.val (fun v => (.pointer (some ⟨P, 0, none⟩)) = v), .val (fun v => (.slice (some ⟨g, 0, none⟩) 3 c9) = v), .mem (fun W v => IncU S g 0 W v), .mem (fun W v => IncU S g 0 W v), .mem (fun W v => IncU S g 0 W v), .mem (fun W v => TabU S g 0 4 W v), .val (fun v => (.pointer (some ⟨S, 0, none⟩)) = v), .val (fun v => ∃ z : Nat, z < 4 ∧ .int .i64 (z : Int) = v), .mem (fun W v => PtrU S g 0 W v), .mem (fun W v => IncU S g 0 W v)] [7] [some 47, some 48, some 49, some 50, some 51, some 52, some 53, some 54, some 55, some 56] (by kernel_rfl) (by kernel_rfl) (by kernel_rfl) (by kernel_rfl) (by kernel_rfl) (by kernel_rfl) rfl (by kernel_rfl) rfl rfl (by kernel_rfl) HSx.out ⟨?_, ?_, ?_, ?_, ?_, ?_, ?_, ?_, ?_, ?_, trivial⟩ ?_
              · intro a w' c hk hst hc hfr hdp K hK
                as_aux_lemma =>
                  have E5 : a.eval (.tmp 5) = .pointer (some ⟨P, 0, none⟩) := fr_list hfr 5 (by kernel_rfl)
                  have d5_ := slot_of E5
                  refine gen_pure (v := .pointer (some ⟨P, 0, none⟩)) ?_ (hK _ _ rfl (Keeps.refl _ _) hst)
                  clear hK hdp hfr
                  go_simp
              · intro a w' c hk hst hc hfr hdp K hK
                as_aux_lemma =>
                  have E47 : a.eval (.tmp 47) = .pointer (some ⟨P, 0, none⟩) := Eq.symm (hdp 0 47 _ (by kernel_rfl) (by kernel_rfl) rfl)
                  have d47_ := slot_of E47
                  have e0 := (hk.cell (p := ⟨P, 0, none⟩) hPl hns.2.1).trans p0
                  refine gen_pure (v := .slice (some ⟨g, 0, none⟩) 3 c9) ?_ (hK _ _ rfl (Keeps.refl _ _) hst)
                  clear hK hdp hfr
                  go_simp
              · intro a w' c hk hst hc hfr hdp K hK
                as_aux_lemma =>
                  have hS9 : S < w'.heap.size := Nat.lt_of_lt_of_le hSl hk.size
                  have hg9 : g < w'.heap.size := Nat.lt_of_lt_of_le hgl hk.size
                  refine wp_valR (v := .slice (some ⟨w'.heap.size, 0, none⟩) 1 1) (w2 := w'.alloc (.cells #[.string ⟨#[99, 98]⟩] 9)) ?_ (hK _ _ ?_ (Keeps.of_below (ext_alloc (Below.refl _ _))) (hst.below (ext_alloc (Below.refl _ _))))
                  · clear hK hdp hfr; exact (bl_drp2 _ (fun _ => rfl) _ _  ⟨#[99, 98]⟩ rfl)
                  · intro w9 h9
                    exact (incU_one S g 0 w' 1 [99, 98] key1 ⟨by decide, by decide⟩ hS9 hg9).keeps h9
              · intro a w' c hk hst hc hfr hdp K hK
                as_aux_lemma =>
                  have hS9 : S < w'.heap.size := Nat.lt_of_lt_of_le hSl hk.size
                  have hg9 : g < w'.heap.size := Nat.lt_of_lt_of_le hgl hk.size
                  refine wp_valR (v := .slice (some ⟨w'.heap.size, 0, none⟩) 2 2) (w2 := w'.alloc (.cells #[.string ⟨#[99, 99]⟩, .string ⟨#[99, 98]⟩] 9)) ?_ (hK _ _ ?_ (Keeps.of_below (ext_alloc (Below.refl _ _))) (hst.below (ext_alloc (Below.refl _ _))))
                  · clear hK hdp hfr; exact (bl_drp3 _ (fun _ => rfl) _ _  ⟨#[99, 99]⟩ ⟨#[99, 98]⟩ rfl)
                  · intro w9 h9
                    exact (incU_two S g 0 w' 2 1 [99, 99] [99, 98] key2 key1 ⟨by decide, by decide⟩ ⟨by decide, by decide⟩ (by decide) hS9 hg9).keeps h9
              · intro a w' c hk hst hc hfr hdp K hK
                as_aux_lemma =>
                  have hS9 : S < w'.heap.size := Nat.lt_of_lt_of_le hSl hk.size
                  have hg9 : g < w'.heap.size := Nat.lt_of_lt_of_le hgl hk.size
                  refine wp_valR (v := .slice (some ⟨w'.heap.size, 0, none⟩) 2 2) (w2 := w'.alloc (.cells #[.string ⟨#[99, 98]⟩, .string ⟨#[99, 99]⟩] 9)) ?_ (hK _ _ ?_ (Keeps.of_below (ext_alloc (Below.refl _ _))) (hst.below (ext_alloc (Below.refl _ _))))
                  · clear hK hdp hfr; exact (bl_drp3 _ (fun _ => rfl) _ _  ⟨#[99, 98]⟩ ⟨#[99, 99]⟩ rfl)
                  · intro w9 h9
                    exact (incU_two S g 0 w' 1 2 [99, 98] [99, 99] key1 key2 ⟨by decide, by decide⟩ ⟨by decide, by decide⟩ (by decide) hS9 hg9).keeps h9
              · intro a w' c hk hst hc hfr hdp K hK
                as_aux_lemma =>
                  have i0 : IncU S g 0 w' (a.eval (.tmp 49)) := hdp 2 49 _ (by kernel_rfl) (by kernel_rfl) rfl w' (Keeps.refl _ _)
                  obtain ⟨a0, n0, l0, e0, r0⟩ := i0.is_
                  have d49_ := slot_of e0
                  have i1 : IncU S g 0 w' (a.eval (.tmp 50)) := hdp 3 50 _ (by kernel_rfl) (by kernel_rfl) rfl w' (Keeps.refl _ _)
                  obtain ⟨a1, n1, l1, e1, r1⟩ := i1.is_
                  have d50_ := slot_of e1
                  have i2 : IncU S g 0 w' (a.eval (.tmp 51)) := hdp 4 51 _ (by kernel_rfl) (by kernel_rfl) rfl w' (Keeps.refl _ _)
                  obtain ⟨a2, n2, l2, e2, r2⟩ := i2.is_
                  have d51_ := slot_of e2
                  have j0 : IncU S g 0 w' (.slice a0 n0 n0) := by rw [← e0]; exact i0
                  have j1 : IncU S g 0 w' (.slice a1 n1 n1) := by rw [← e1]; exact i1
                  have j2 : IncU S g 0 w' (.slice a2 n2 n2) := by rw [← e2]; exact i2
                  have hS9 : S < w'.heap.size := Nat.lt_of_lt_of_le hSl hk.size
                  refine wp_valR (v := .slice (some ⟨w'.heap.size, 0, none⟩) 4 4) (w2 := w'.alloc (.cells #[.slice none 0 0, .slice a0 n0 n0, .slice a1 n1 n1, .slice a2 n2 n2] 33)) ?_ (hK _ _ ?_ (Keeps.of_below (ext_alloc (Below.refl _ _))) (hst.below (ext_alloc (Below.refl _ _))))
                  · clear hK hdp hfr; exact (bl_drp4 _ (fun _ => rfl) _ _ 49 50 51 none 0 0 a0 n0 n0 a1 n1 n1 a2 n2 n2 rfl e0 e1 e2)
                  · intro w9 h9
                    have hB := Blk.new w' [.slice none 0 0, .slice a0 n0 n0, .slice a1 n1 n1, .slice a2 n2 n2] 33
                    have kA : Keeps S w' (w'.alloc (.cells #[.slice none 0 0, .slice a0 n0 n0, .slice a1 n1 n1, .slice a2 n2 n2] 33)) := Keeps.of_below (ext_alloc (Below.refl _ _))
                    have hT : TabU S g 0 4 (w'.alloc (.cells #[.slice none 0 0, .slice a0 n0 n0, .slice a1 n1 n1, .slice a2 n2 n2] 33)) (.slice (some ⟨w'.heap.size, 0, none⟩) 4 4) := ⟨w'.heap.size, rfl, by omega, hB.lt, fun z hz => by
                      match z, hz with
                      | 0, _ => exact ⟨_, hB.cell 0 rfl, incU_nil S g 0 _⟩
                      | 1, _ => exact ⟨_, hB.cell 1 rfl, j0.keeps kA⟩
                      | 2, _ => exact ⟨_, hB.cell 2 rfl, j1.keeps kA⟩
                      | 3, _ => exact ⟨_, hB.cell 3 rfl, j2.keeps kA⟩⟩
                    exact hT.keeps h9
              · intro a w' c hk hst hc hfr hdp K hK
                as_aux_lemma =>
                  have E3 : a.eval (.tmp 0) = .pointer (some ⟨S, 0, none⟩) := fr_list hfr 0 (by kernel_rfl)
                  have d0_ := slot_of E3
                  refine gen_pure (v := .pointer (some ⟨S, 0, none⟩)) ?_ (hK _ _ rfl (Keeps.refl _ _) hst)
                  clear hK hdp hfr
                  go_simp
              · intro a w' c hk hst hc hfr hdp K hK
                as_aux_lemma =>
                  have E53 : a.eval (.tmp 53) = .pointer (some ⟨S, 0, none⟩) := Eq.symm (hdp 6 53 _ (by kernel_rfl) (by kernel_rfl) rfl)
                  have d53_ := slot_of E53
                  have hc2 : c + 1 ≤ 1 := hc
                  refine gen_call 24 #[.pointer (some ⟨S, 0, none⟩), .int .i64 4] ?_ (next_any S _ 4 w' hst (by omega) (by omega) (by omega)) ?_
                  · clear hK hdp hfr; go_simp
                  rintro e w'' ⟨r, rfl, h1, h2, hst2, hkp⟩
                  obtain ⟨z, rfl⟩ := Int.eq_ofNat_of_zero_le h1
                  exact ⟨_, rfl, hK _ _ ⟨z, by omega, rfl⟩ hkp (hst2.mono (by simp; omega))⟩
              · intro a w' c hk hst hc hfr hdp K hK
                as_aux_lemma =>
                  have hT : TabU S g 0 4 w' (a.eval (.tmp 52)) := hdp 5 52 _ (by kernel_rfl) (by kernel_rfl) rfl w' (Keeps.refl _ _)
                  obtain ⟨B, eB, hB1, hB2, hB3⟩ := hT.is_
                  have d52_ := slot_of eB
                  obtain ⟨z, hz, ez⟩ := hdp 7 54 _ (by kernel_rfl) (by kernel_rfl) rfl
                  have Ez := Eq.symm ez
                  have d54_ := slot_of Ez
                  have hz0 : ¬ ((z : Int) < 0) := by omega
                  have hzm : (z : Int) < 4 := by omega
                  obtain ⟨u, hu, hiu⟩ := hB3 z hz
                  clear ez eB Ez hT
                  refine gen_pure (v := .pointer (some ⟨B, z, none⟩)) ?_ (hK _ _ (fun w9 h9 => PtrU.keeps ⟨B, z, u, rfl, hB1, hB2, hu, hiu⟩ h9) (Keeps.refl _ _) hst)
                  clear hK hdp hfr hB3 hiu
                  go_simp
              · intro a w' c hk hst hc hfr hdp K hK
                as_aux_lemma =>
                  have hT : PtrU S g 0 w' (a.eval (.tmp 55)) := hdp 8 55 _ (by kernel_rfl) (by kernel_rfl) rfl w' (Keeps.refl _ _)
                  obtain ⟨B, z, u, eB, hB1, hB2, hu, hiu⟩ := hT.is_
                  have d55_ := slot_of eB
                  clear eB hT
                  have hiu2 := hiu.is_
                  obtain ⟨ua, un, ui, rfl, _⟩ := hiu2
                  refine gen_pure (v := .slice ua un un) ?_ (hK _ _ (fun w9 h9 => hiu.keeps h9) (Keeps.refl _ _) hst)
                  clear hK hdp hfr hiu
                  go_simp
              intro w9 hk9 hst9
              rintro _ rfl _ rfl _ - _ - _ - _ - _ rfl _ ⟨z, hz, rfl⟩ _ - _ h9
              have hiu := h9 w9 (Keeps.refl _ _)
              obtain ⟨ia, inn, incs, rfl, q1, q2, q3, q4, q5⟩ := hiu.is_
              simp only [ForVals, Act.put, List.setIfInBounds_toArray, List.set_cons_zero, List.set_cons_succ, List.drop_succ_cons, List.drop_zero]
              have kd : Keeps S w0 w9 := Keeps.trans (by exact Keeps.of_below (ext_drew (Below.refl _ _))) hk9
              have G9 := Lib.hid (Gx.out.keeps kd hSb ⟨hns.1, hns.2.1⟩)
              have G10 := Lib.hid (G9.out.put 0 (by decide) ia inn inn incs ⟨q1, q2, q3, Nat.le_refl _, q4, q5⟩)
              obtain ⟨u, hu⟩ : ∃ u, w9.cell? ⟨g, 2, none⟩ = some u := by
                have e := G9.out.cx.cellAt 2 (by decide)
                have hl : ((ctxs.map DCtx.cells).flatten).length = 9 := G9.out.cx.1
                exact ⟨_, e.trans (List.getElem?_eq_getElem (by omega))⟩
              have hfz : w9.frozen? ⟨g, 2, none⟩ = false := G9.out.cx.frozenAt 2
              have HK9 := Lib.hid (HKx.out.trans kd)
              have HK10 : Hid (Keeps S w (w9.setCell ⟨g, 2, none⟩ (.slice ia inn inn))) := HK9.out.setCell_new (p := ⟨g, 2, none⟩) hgw _
              have HS10 : Hid (StreamOk (w9.setCell ⟨g, 2, none⟩ (.slice ia inn inn)) S (k + 40 + 100 * 3 + 1)) := (hst9.mono (by simp)).upto ((Below.refl (S + 1) w9).setCell (p := ⟨g, 2, none⟩) (by show S + 1 ≤ g; omega) _)
              clear kd hk9 hst9 h9 hiu q1 q2 q3 q4 q5 G9 HK9 Gx HKx HSx p0
              go_wp2_with fail
              go_meet
              exact ⟨rfl, _, G10, HS10, HK10⟩
            case rest =>
              obtain ⟨rfl, ctxs2, G1, HS1, HK1⟩ := hcut
              clear Gx HSx HKx p0 hgl hPl hSl
              obtain ⟨w1, rfl⟩ : ∃ x : World, x = wc := ⟨_, rfl⟩
              have hPl : P < w1.heap.size := G1.out.p_.lt
              have hSl : S < w1.heap.size := HS1.out.lt
              have hgl : g < w1.heap.size := by
                rcases shape_own G1.out.cx with ⟨h0, _⟩ | ⟨g, c, e, _, h1⟩
                · cases h0
                · injection e with e; injection e with e; injection e with e; rw [e]; exact h1
              have p0 := G1.out.p_.cell 0 rfl
              have HSx := HS1
              have HKx := HK1
              have Gx := G1
              clear HS1 HK1 G1
              as_aux_lemma =>
                go_upto_region 15 with (fail)
                go_cut [5] (fun v5 wx => v5 = .pointer (some ⟨P, 0, none⟩) ∧ ∃ ctxs3, Hid (PlG S w.heap.size Q P g c9 [.slice none 0 0, .slice none 0 0] (.slice (some ⟨hg, 0, none⟩) 2 hc) hrs ctxs3 wx) ∧ Hid (StreamOk wx S (k + 40 + 100 * 3 + 1 + 1)) ∧ Hid (Keeps S w wx))
                case first =>
                  refine region_all S (k + 40 + 100 * 3 + 1) 1 8 0 [.val (fun v => (.pointer (some ⟨P, 0, none⟩)) = v), .val (fun v => (.slice (some ⟨g, 0, none⟩) 3 c9) = v), .mem (fun W v => IncU S g 1 W v), .mem (fun W v => TabU S g 1 2 W v), .val (fun v => (.pointer (some ⟨S, 0, none⟩)) = v), .val (fun v => ∃ z : Nat, z < 2 ∧ .int .i64 (z : Int) = v), .mem (fun W v => PtrU S g 1 W v), .mem (fun W v => IncU S g 1 W v)] [5] [some 59, some 60, some 61, some 62, some 63, some 64, some 65, some 66] (by kernel_rfl) (by kernel_rfl) (by kernel_rfl) (by kernel_rfl) (by kernel_rfl) (by kernel_rfl) rfl (by kernel_rfl) rfl rfl (by kernel_rfl) HSx.out ⟨?_, ?_, ?_, ?_, ?_, ?_, ?_, ?_, trivial⟩ ?_
                  · intro a w' c hk hst hc hfr hdp K hK
                    as_aux_lemma =>
                      have E5 : a.eval (.tmp 5) = .pointer (some ⟨P, 0, none⟩) := fr_list hfr 5 (by kernel_rfl)
                      have d5_ := slot_of E5
                      refine gen_pure (v := .pointer (some ⟨P, 0, none⟩)) ?_ (hK _ _ rfl (Keeps.refl _ _) hst)
                      clear hK hdp hfr
                      go_simp
                  · intro a w' c hk hst hc hfr hdp K hK
                    as_aux_lemma =>
                      have E59 : a.eval (.tmp 59) = .pointer (some ⟨P, 0, none⟩) := Eq.symm (hdp 0 59 _ (by kernel_rfl) (by kernel_rfl) rfl)
                      have d59_ := slot_of E59
                      have e0 := (hk.cell (p := ⟨P, 0, none⟩) hPl hns.2.1).trans p0
                      refine gen_pure (v := .slice (some ⟨g, 0, none⟩) 3 c9) ?_ (hK _ _ rfl (Keeps.refl _ _) hst)
                      clear hK hdp hfr
                      go_simp
                  · intro a w' c hk hst hc hfr hdp K hK
                    as_aux_lemma =>
                      have hS9 : S < w'.heap.size := Nat.lt_of_lt_of_le hSl hk.size
                      have hg9 : g < w'.heap.size := Nat.lt_of_lt_of_le hgl hk.size
                      refine wp_valR (v := .slice (some ⟨w'.heap.size, 0, none⟩) 1 1) (w2 := w'.alloc (.cells #[.string ⟨#[99, 99]⟩] 9)) ?_ (hK _ _ ?_ (Keeps.of_below (ext_alloc (Below.refl _ _))) (hst.below (ext_alloc (Below.refl _ _))))
                      · clear hK hdp hfr; exact (bl_drp2 _ (fun _ => rfl) _ _  ⟨#[99, 99]⟩ rfl)
                      · intro w9 h9
                        exact (incU_one S g 1 w' 2 [99, 99] key2 ⟨by decide, by decide⟩ hS9 hg9).keeps h9
                  · intro a w' c hk hst hc hfr hdp K hK
                    as_aux_lemma =>
                      have i0 : IncU S g 1 w' (a.eval (.tmp 61)) := hdp 2 61 _ (by kernel_rfl) (by kernel_rfl) rfl w' (Keeps.refl _ _)
                      obtain ⟨a0, n0, l0, e0, r0⟩ := i0.is_
                      have d61_ := slot_of e0
                      have j0 : IncU S g 1 w' (.slice a0 n0 n0) := by rw [← e0]; exact i0
                      have hS9 : S < w'.heap.size := Nat.lt_of_lt_of_le hSl hk.size
                      refine wp_valR (v := .slice (some ⟨w'.heap.size, 0, none⟩) 2 2) (w2 := w'.alloc (.cells #[.slice none 0 0, .slice a0 n0 n0] 33)) ?_ (hK _ _ ?_ (Keeps.of_below (ext_alloc (Below.refl _ _))) (hst.below (ext_alloc (Below.refl _ _))))
                      · clear hK hdp hfr; exact (bl_drp5 _ (fun _ => rfl) _ _ 61 none 0 0 a0 n0 n0 rfl e0)
                      · intro w9 h9
                        have hB := Blk.new w' [.slice none 0 0, .slice a0 n0 n0] 33
                        have kA : Keeps S w' (w'.alloc (.cells #[.slice none 0 0, .slice a0 n0 n0] 33)) := Keeps.of_below (ext_alloc (Below.refl _ _))
                        have hT : TabU S g 1 2 (w'.alloc (.cells #[.slice none 0 0, .slice a0 n0 n0] 33)) (.slice (some ⟨w'.heap.size, 0, none⟩) 2 2) := ⟨w'.heap.size, rfl, by omega, hB.lt, fun z hz => by
                          match z, hz with
                          | 0, _ => exact ⟨_, hB.cell 0 rfl, incU_nil S g 1 _⟩
                          | 1, _ => exact ⟨_, hB.cell 1 rfl, j0.keeps kA⟩⟩
                        exact hT.keeps h9
                  · intro a w' c hk hst hc hfr hdp K hK
                    as_aux_lemma =>
                      have E3 : a.eval (.tmp 0) = .pointer (some ⟨S, 0, none⟩) := fr_list hfr 0 (by kernel_rfl)
                      have d0_ := slot_of E3
                      refine gen_pure (v := .pointer (some ⟨S, 0, none⟩)) ?_ (hK _ _ rfl (Keeps.refl _ _) hst)
                      clear hK hdp hfr
                      go_simp
                  · intro a w' c hk hst hc hfr hdp K hK
                    as_aux_lemma =>
                      have E63 : a.eval (.tmp 63) = .pointer (some ⟨S, 0, none⟩) := Eq.symm (hdp 4 63 _ (by kernel_rfl) (by kernel_rfl) rfl)
                      have d63_ := slot_of E63
                      have hc2 : c + 1 ≤ 1 := hc
                      refine gen_call 24 #[.pointer (some ⟨S, 0, none⟩), .int .i64 2] ?_ (next_any S _ 2 w' hst (by omega) (by omega) (by omega)) ?_
                      · clear hK hdp hfr; go_simp
                      rintro e w'' ⟨r, rfl, h1, h2, hst2, hkp⟩
                      obtain ⟨z, rfl⟩ := Int.eq_ofNat_of_zero_le h1
                      exact ⟨_, rfl, hK _ _ ⟨z, by omega, rfl⟩ hkp (hst2.mono (by simp; omega))⟩
                  · intro a w' c hk hst hc hfr hdp K hK
                    as_aux_lemma =>
                      have hT : TabU S g 1 2 w' (a.eval (.tmp 62)) := hdp 3 62 _ (by kernel_rfl) (by kernel_rfl) rfl w' (Keeps.refl _ _)
                      obtain ⟨B, eB, hB1, hB2, hB3⟩ := hT.is_
                      have d62_ := slot_of eB
                      obtain ⟨z, hz, ez⟩ := hdp 5 64 _ (by kernel_rfl) (by kernel_rfl) rfl
                      have Ez := Eq.symm ez
                      have d64_ := slot_of Ez
                      have hz0 : ¬ ((z : Int) < 0) := by omega
                      have hzm : (z : Int) < 2 := by omega
                      obtain ⟨u, hu, hiu⟩ := hB3 z hz
                      clear ez eB Ez hT
                      refine gen_pure (v := .pointer (some ⟨B, z, none⟩)) ?_ (hK _ _ (fun w9 h9 => PtrU.keeps ⟨B, z, u, rfl, hB1, hB2, hu, hiu⟩ h9) (Keeps.refl _ _) hst)
                      clear hK hdp hfr hB3 hiu
                      go_simp
                  · intro a w' c hk hst hc hfr hdp K hK
                    as_aux_lemma =>
                      have hT : PtrU S g 1 w' (a.eval (.tmp 65)) := hdp 6 65 _ (by kernel_rfl) (by kernel_rfl) rfl w' (Keeps.refl _ _)
                      obtain ⟨B, z, u, eB, hB1, hB2, hu, hiu⟩ := hT.is_
                      have d65_ := slot_of eB
                      clear eB hT
                      have hiu2 := hiu.is_
                      obtain ⟨ua, un, ui, rfl, _⟩ := hiu2
                      refine gen_pure (v := .slice ua un un) ?_ (hK _ _ (fun w9 h9 => hiu.keeps h9) (Keeps.refl _ _) hst)
                      clear hK hdp hfr hiu
                      go_simp
                  intro w9 hk9 hst9
                  rintro _ rfl _ rfl _ - _ - _ rfl _ ⟨z, hz, rfl⟩ _ - _ h9
                  have hiu := h9 w9 (Keeps.refl _ _)
                  obtain ⟨ia, inn, incs, rfl, q1, q2, q3, q4, q5⟩ := hiu.is_
                  simp only [ForVals, Act.put, List.setIfInBounds_toArray, List.set_cons_zero, List.set_cons_succ, List.drop_succ_cons, List.drop_zero]
                  have kd : Keeps S w1 w9 := Keeps.trans (by exact Keeps.of_below (ext_drew (Below.refl _ _))) hk9
                  have G9 := Lib.hid (Gx.out.keeps kd hSb ⟨hns.1, hns.2.1⟩)
                  have G10 := Lib.hid (G9.out.put 1 (by decide) ia inn inn incs ⟨q1, q2, q3, Nat.le_refl _, q4, q5⟩)
                  obtain ⟨u, hu⟩ : ∃ u, w9.cell? ⟨g, 5, none⟩ = some u := by
                    have e := G9.out.cx.cellAt 5 (by decide)
                    have hl : ((ctxs2.map DCtx.cells).flatten).length = 9 := G9.out.cx.1
                    exact ⟨_, e.trans (List.getElem?_eq_getElem (by omega))⟩
                  have hfz : w9.frozen? ⟨g, 5, none⟩ = false := G9.out.cx.frozenAt 5
                  have HK9 := Lib.hid (HKx.out.trans kd)
                  have HK10 : Hid (Keeps S w (w9.setCell ⟨g, 5, none⟩ (.slice ia inn inn))) := HK9.out.setCell_new (p := ⟨g, 5, none⟩) hgw _
                  have HS10 : Hid (StreamOk (w9.setCell ⟨g, 5, none⟩ (.slice ia inn inn)) S (k + 40 + 100 * 3 + 1 + 1)) := (hst9.mono (by simp)).upto ((Below.refl (S + 1) w9).setCell (p := ⟨g, 5, none⟩) (by show S + 1 ≤ g; omega) _)
                  clear kd hk9 hst9 h9 hiu q1 q2 q3 q4 q5 G9 HK9 Gx HKx HSx p0
                  go_wp2_with fail
                  go_meet
                  exact ⟨rfl, _, G10, HS10, HK10⟩
                case rest =>
                  obtain ⟨rfl, ctxs3, G2, HS2, HK2⟩ := hcut
                  obtain ⟨w3, rfl⟩ : ∃ x : World, x = wc := ⟨_, rfl⟩
                  have HF : Hid (DplPost S (k + 400) w (.returned (.agg #[.slice (some ⟨g, 0, none⟩) 3 c9, .slice (some ⟨hg, 0, none⟩) 2 hc])) (w3.setCells Q 0 [.slice (some ⟨g, 0, none⟩) 3 c9, .slice (some ⟨hg, 0, none⟩) 2 hc])) :=
                    ⟨⟨some ⟨g, 0, none⟩, 3, c9, ctxs3, some ⟨hg, 0, none⟩, 2, hc, hrs⟩, rfl, fun W hW => ((G2.out.last hPK.1 _ _).keeps hW hSb ⟨hns.1, hns.2.1⟩).fine, (HS2.out.upto (below_setCellsD (by omega) _ _ _)).mono (by omega), keeps_cellsD hbQ _ _ _ HK2.out⟩
                  have HTQ : Hid (w3.there Q 0 2) := G2.out.q_.th 2 (Nat.le_refl 2)
                  have p0 := G2.out.p_.cell 0 rfl
                  have p1 := G2.out.p_.cell 1 rfl
                  have QA : Hid (Blk (w3.setCells Q 0 [.slice (some ⟨g, 0, none⟩) 3 c9, .slice (some ⟨hg, 0, none⟩) 2 hc]) Q [.slice (some ⟨g, 0, none⟩) 3 c9, .slice (some ⟨hg, 0, none⟩) 2 hc] 29) := (G2.out.q_.put 0 _).put 1 _
                  clear G2 HS2 HK2
                  as_aux_lemma =>
                    go_wp2_with (refine wpList_store_mid rfl 29 (.tmp 4) (.tmp 69) rfl Q 0 #[.slice (some ⟨g, 0, none⟩) 3 c9, .slice (some ⟨hg, 0, none⟩) 2 hc] rfl rfl HTQ.out Tryz.dplanSz (by simp [Value.oneCell']) ?_; generalize w3.setCells Q 0 _ = W9 at QA HF ⊢)
                    refine bodyPost_ret (v := .agg #[.slice (some ⟨g, 0, none⟩) 3 c9, .slice (some ⟨hg, 0, none⟩) 2 hc]) ?_ rfl HF.out
                    exact results_cell1 (t := 4) (by rfl) _ _ _ Tryz.isAgg29 Tryz.sizeOf29 (by rfl) [.slice (some ⟨g, 0, none⟩) 3 c9, .slice (some ⟨hg, 0, none⟩) 2 hc] rfl (fun j v hj => QA.out.cell j hj)
        have hql : (q : Int) < 3 := by omega
        have hq0 : ¬ ((q : Int) < 0) := by omega
        have kq : w0.cell? ⟨KB, q, none⟩ = some (.string ⟨(ctxKey q).toArray⟩) := by
          match q, hlq with
          | 0, _ => rw [show ctxKey 0 = [99, 97] by decide]; exact PLq.out.kb.cell 0 rfl
          | 1, _ => rw [show ctxKey 1 = [99, 98] by decide]; exact PLq.out.kb.cell 1 rfl
          | 2, _ => rw [show ctxKey 2 = [99, 99] by decide]; exact PLq.out.kb.cell 2 rfl
        have hw0 : w.heap.size ≤ w0.heap.size := HKq.out.size
        obtain ⟨kk, hkk⟩ : ∃ x, x = ctxKey q := ⟨_, rfl⟩
        rw [← hkk] at kq
        have HKK := Lib.hid hkk
        clear hkk
        have hA : Below w0.heap.size w0 (w0.alloc (.cells #[.string ⟨kk.toArray⟩, .slice none 0 0, .slice none 0 0] 59)) := ext_alloc (Below.refl _ _)
        have C1 : Hid (Blk (w0.alloc (.cells #[.string ⟨kk.toArray⟩, .slice none 0 0, .slice none 0 0] 59)) w0.heap.size [.string ⟨kk.toArray⟩, .slice none 0 0, .slice none 0 0] 59) := Blk.new _ _ _
        have HS1 := Lib.hid (HSq.out.below hA)
        have HK1 : Hid (Keeps S w0 (w0.alloc (.cells #[.string ⟨kk.toArray⟩, .slice none 0 0, .slice none 0 0] 59))) := Keeps.of_below hA
        clear hA
        as_aux_lemma =>
          go_upto_region 6 with (fail)
          generalize w0.alloc (.cells #[.string ⟨kk.toArray⟩, .slice none 0 0, .slice none 0 0] 59) = w4 at C1 HS1 HK1 ⊢
          obtain ⟨C, hC⟩ : ∃ x, x = w0.heap.size := ⟨_, rfl⟩
          rw [← hC] at C1
          simp only [← hC]
          have hCS : C ≠ S := by omega
          have hC0 : w0.heap.size ≤ C := by omega
          have hSC : S + 1 ≤ C := by omega
          clear hC kq
          go_wp2_with fail
          refine (range_any S (k + 40 + 100 * q) 0 (most : Int) _ HS1.out (by omega) (by omega) (by omega) (by omega)).mono ?_
          rintro e w5 ⟨mz, rfl, hm0, hm1, hst, hk'⟩
          obtain ⟨m, rfl⟩ := Int.eq_ofNat_of_zero_le hm0
          have hm4 : m ≤ 4 := by omega
          have HS5 := Lib.hid hst
          have HK5 := Lib.hid (HK1.out.trans hk')
          have C5 := Lib.hid (C1.out.keeps hk' hCS)
          clear hst hk' HS1 HK1 C1 hm0 hm1
          as_aux_lemma =>
            go_wp2_with fail
            go_loopw [24] (fun it wr => ∃ j : Nat, j ≤ m ∧ it = .int .i64 j ∧ ∃ v l, l.length ≤ j ∧ Hid (RulesAt wr w0.heap.size v l) ∧ Hid (Blk wr C [.string ⟨kk.toArray⟩, v, .slice none 0 0] 59) ∧ Hid (StreamOk wr S (k + 40 + 100 * q + 1 + 11 * j)) ∧ Hid (Keeps S w0 wr)) (fun it _ => m - (intOf it).toNat)
            case atStart => exact ⟨0, Nat.zero_le _, rfl, _, _, Nat.le_refl _, rules_nil _ _, C5, HS5, HK5⟩
            case round =>
              obtain ⟨j, hj, rfl, v, l, hlj, RA, CB, HSj, HKj⟩ := hrel
              clear C5 HS5 HK5
              obtain ⟨va2, vc2, rfl⟩ : ∃ a c, v = .slice a l.length c := by
                rcases shape_own RA.out.own with ⟨h0, rfl⟩ | ⟨g, c, rfl, _⟩
                · exact ⟨none, 0, by rw [h0]⟩
                · exact ⟨_, _, rfl⟩
              have hSw0 : S < w0.heap.size := by omega
              by_cases hjm : j < m
              case neg =>
                have hjn : ¬ (j : Int) < (m : Int) := by omega
                have PLE := Lib.hid (PLq.out.keeps HKj.out hSw hns)
                have hwr : w0.heap.size ≤ wr.heap.size := HKj.out.size
                have p0 := PLE.out.p_.cell 0 rfl
                have f0 := PLE.out.p_.fr 0
                have c0 := CB.out.cell 0 rfl
                have c1 := CB.out.cell 1 rfl
                have c2 := CB.out.cell 2 rfl
                have hA : Below wr.heap.size wr (wr.alloc (.cells #[.string ⟨kk.toArray⟩, .slice va2 l.length vc2, .slice none 0 0] 59)) := ext_alloc (Below.refl _ _)
                have HA := Lib.hid hA
                have HO8 := Lib.hid (own_more PLE.out.cx hA)
                have hml : q + 1 ≤ maxLen := by unfold maxLen; omega
                have hbs : (q + 1) * 64 ≤ 140737488355328 := by omega
                have hsz8 : w.heap.size ≤ (wr.alloc (.cells #[.string ⟨kk.toArray⟩, .slice va2 l.length vc2, .slice none 0 0] 59)).heap.size := by simp; omega
                have HRA8 := Lib.hid ((RA.out.below hA).lower hw0)
                have HS8 := Lib.hid (HSj.out.below hA)
                have HK8 : Hid (Keeps S w (wr.alloc (.cells #[.string ⟨kk.toArray⟩, .slice va2 l.length vc2, .slice none 0 0] 59))) := (HKq.out.trans HKj.out).trans (Keeps.of_below hA)
                have P8 := Lib.hid (PLE.out.p_.below hA)
                clear hA PLq HSq HKq HSj
                as_aux_lemma =>
                  go_wp2_with (first | (refine wpList_val rfl (bl_drp0 _ (fun _ => rfl) _ _ 42 ⟨kk.toArray⟩ va2 l.length vc2 none 0 0 rfl rfl) ?_) | (at_builtin; refine wpList_append_own _ rfl (.tmp 41) (.tmp 43) 26 rfl w.heap.size 59 i1 _ 3 64 Tryz.underlying26 hi1 hy0 hy1 hy2 rfl (by decide) va q ((ctxs.map DCtx.cells).flatten) rfl HO8.out ⟨wr.heap.size, 0, none⟩ 1 1 [.string ⟨kk.toArray⟩, .slice va2 l.length vc2, .slice none 0 0] rfl rfl (news_alloc _ [.string ⟨kk.toArray⟩, .slice va2 l.length vc2, .slice none 0 0] _) (by simp [Value.oneCell']) hml hbs hsz8 ?_; intro v9 w9 hown9 hgr9 _; refine Hid.out ?_))
                  refine Lib.hid ?_
                  obtain ⟨a9, c9, rfl⟩ : ∃ a c, v9 = .slice a (q + 1) c := by
                    rcases shape_own hown9 with ⟨h0, _⟩ | ⟨g, c, e, _⟩
                    · omega
                    · exact ⟨_, _, e⟩
                  have PL9 : Hid (PlW w.heap.size Q P KB (q + 1) (.slice a9 (q + 1) c9) (.slice (some ⟨hg, 0, none⟩) 2 hc) hrs (ctxs ++ [⟨kk, va2, l.length, vc2, l, none, 0, 0, []⟩]) (w9.setCell ⟨P, 0, none⟩ (.slice a9 (q + 1) c9))) := PLE.out.push HA.out hgr9 hown9 ⟨HRA8.out, by show l.length ≤ 10; omega, HKK.out, rfl, rfl, rfl, rfl⟩ hPK hbP
                  have hb9 : Below w.heap.size (wr.alloc (.cells #[.string ⟨kk.toArray⟩, .slice va2 l.length vc2, .slice none 0 0] 59)) w9 := gb_to_below hgr9 hsz8 (fun b hb => by
                    rcases shape_own HO8.out with ⟨_, e⟩ | ⟨g, c, e, h1, _⟩
                    · rw [e] at hb; cases hb
                    · rw [e] at hb; obtain rfl : g = b := Option.some.inj hb; exact h1)
                  have hb10 : Below w.heap.size (wr.alloc (.cells #[.string ⟨kk.toArray⟩, .slice va2 l.length vc2, .slice none 0 0] 59)) (w9.setCell ⟨P, 0, none⟩ (.slice a9 (q + 1) c9)) := hb9.setCell (p := ⟨P, 0, none⟩) hbP _
                  have P9 : Blk w9 P _ 29 := P8.out.grown hgr9 (own_blk HO8.out P8.out (by decide))
                  have q0 := P9.cell 0 rfl
                  have qf := P9.fr 0
                  have HS9 : Hid (StreamOk (w9.setCell ⟨P, 0, none⟩ (.slice a9 (q + 1) c9)) S (k + 40 + 100 * (q + 1))) := (HS8.out.upto (hb10.mono (by omega))).mono (by omega)
                  have HK9 : Hid (Keeps S w (w9.setCell ⟨P, 0, none⟩ (.slice a9 (q + 1) c9))) := keeps_up HK8.out hb10
                  clear p0 f0 c0 c1 c2 hown9 hgr9 hb9 hb10 P9 PLE HA HO8 HRA8 HS8 HK8 P8 RA CB HKj
                  as_aux_lemma =>
                    go_wp2_with fail
                    go_roundw
                    case rel => exact ⟨q + 1, by omega, by go_num, _, _, PL9, HS9, HK9⟩
                    case measure => simp [intOf]; omega
              have hjn : (j : Int) < (m : Int) := by omega
              as_aux_lemma =>
                go_wp2_with fail
                refine (rightRule_any S (k + 40 + 100 * q + 1 + 11 * j) _ HSj.out (by omega)).mono ?_
                rintro e w6 ⟨r, hr, he, hst, hk'⟩
                obtain ⟨re, rn, rp, rt, rm, rh⟩ := r
                have he2 : e = .returned (.agg #[.string ⟨re.str.toArray⟩, .int .i64 rn, .string ⟨rp.toArray⟩, .int .i64 rt, .string ⟨rm.toArray⟩, .string ⟨rh.toArray⟩]) := he
                subst he2
                clear he
                have HR6 := Lib.hid hr
                have RA6 := Lib.hid (RA.out.keeps hk' hSw0)
                have CB6 := Lib.hid (CB.out.keeps hk' hCS)
                have HS6 := Lib.hid hst
                have HK6 := Lib.hid (HKj.out.trans hk')
                have hw6 : w0.heap.size ≤ w6.heap.size := HK6.out.size
                have hC6 : C < w6.heap.size := CB6.out.lt
                clear hr hst hk' RA CB HSj HKj
                have hz0 := Blk.new w6 [.string ⟨#[]⟩, .int .i64 0, .string ⟨#[]⟩, .int .i64 0, .string ⟨#[]⟩, .string ⟨#[]⟩] 62
                have HTH : Hid (World.there (w6.alloc (.cells #[.string ⟨#[]⟩, .int .i64 0, .string ⟨#[]⟩, .int .i64 0, .string ⟨#[]⟩, .string ⟨#[]⟩] 62)) w6.heap.size 0 6) := hz0.th 6 (Nat.le_refl 6)
                have hA : Below w6.heap.size w6 (w6.alloc (.cells #[.string ⟨#[]⟩, .int .i64 0, .string ⟨#[]⟩, .int .i64 0, .string ⟨#[]⟩, .string ⟨#[]⟩] 62)) := ext_alloc (Below.refl _ _)
                have hV : Below w6.heap.size w6 (World.setCells (w6.alloc (.cells #[.string ⟨#[]⟩, .int .i64 0, .string ⟨#[]⟩, .int .i64 0, .string ⟨#[]⟩, .string ⟨#[]⟩] 62)) w6.heap.size 0 [.string ⟨re.str.toArray⟩, .int .i64 rn, .string ⟨rp.toArray⟩, .int .i64 rt, .string ⟨rm.toArray⟩, .string ⟨rh.toArray⟩]) := belowW_put (Nat.le_refl _) hA _
                have R7 : Hid (Blk (World.setCells (w6.alloc (.cells #[.string ⟨#[]⟩, .int .i64 0, .string ⟨#[]⟩, .int .i64 0, .string ⟨#[]⟩, .string ⟨#[]⟩] 62)) w6.heap.size 0 [.string ⟨re.str.toArray⟩, .int .i64 rn, .string ⟨rp.toArray⟩, .int .i64 rt, .string ⟨rm.toArray⟩, .string ⟨rh.toArray⟩]) w6.heap.size [.string ⟨re.str.toArray⟩, .int .i64 rn, .string ⟨rp.toArray⟩, .int .i64 rt, .string ⟨rm.toArray⟩, .string ⟨rh.toArray⟩] 62) := hz0.put6 (.string ⟨re.str.toArray⟩) (.int .i64 rn) (.string ⟨rp.toArray⟩) (.int .i64 rt) (.string ⟨rm.toArray⟩) (.string ⟨rh.toArray⟩)
                have RA7 := Lib.hid (RA6.out.below hV)
                have CB7 := Lib.hid (CB6.out.below hV)
                have HS7 := Lib.hid (HS6.out.below hV)
                have HK7 := Lib.hid (HK6.out.trans (Keeps.of_below hV))
                clear hz0 hA hV RA6 CB6 HS6 HK6
                as_aux_lemma =>
                  go_wp2_with (refine wpList_store_mid rfl 62 (.tmp 9) (.tmp 27) rfl w6.heap.size 0 #[.string ⟨re.str.toArray⟩, .int .i64 rn, .string ⟨rp.toArray⟩, .int .i64 rt, .string ⟨rm.toArray⟩, .string ⟨rh.toArray⟩] rfl rfl HTH.out Tryz.druleSz (by simp [Value.oneCell']) ?_; generalize (World.setCells (w6.alloc (.cells #[.string ⟨#[]⟩, .int .i64 0, .string ⟨#[]⟩, .int .i64 0, .string ⟨#[]⟩, .string ⟨#[]⟩] 62)) w6.heap.size 0 [.string ⟨re.str.toArray⟩, .int .i64 rn, .string ⟨rp.toArray⟩, .int .i64 rt, .string ⟨rm.toArray⟩, .string ⟨rh.toArray⟩]) = w7 at R7 RA7 CB7 HS7 HK7 ⊢; clear HTH; refine Hid.out ?_)
                  refine Lib.hid ?_
                  have hRC : w6.heap.size ≠ C := by omega
                  have hw7 : w0.heap.size ≤ w7.heap.size := HK7.out.size
                  generalize w6.heap.size = R at R7 hw6 hRC ⊢
                  clear hC6
                  have c1 := CB7.out.cell 1 rfl
                  have HHZ := Lib.hid (hasZ_any 23 #[.pointer (some ⟨R, 0, none⟩)] (fun _ _ => rfl) w7 va2 l.length vc2 l (RA7.out.row (by omega)).1.cells (by omega) _ (same_pred ⟨re, rn, rp, rt, rm, rh⟩ R w7 R7.out))
                  have HON : Hid ((l.any fun x => sameR x ⟨re, rn, rp, rt, rm, rh⟩) = false → OnceR (l ++ [⟨re, rn, rp, rt, rm, rh⟩])) := fun hn => once_snoc RA7.out.once hn
                  generalize (l.any fun x => sameR x ⟨re, rn, rp, rt, rm, rh⟩) = bb at HHZ HON
                  as_aux_lemma =>
                    go_wp2_with fail
                    refine HHZ.out.mono ?_
                    rintro e w8 ⟨rfl, hb⟩
                    have RA8 := Lib.hid (RA7.out.below hb)
                    have CB8 := Lib.hid (CB7.out.below hb)
                    have R8 := Lib.hid (R7.out.below hb)
                    have HS8 := Lib.hid (HS7.out.below hb)
                    have HK8 := Lib.hid (HK7.out.trans (Keeps.of_below hb))
                    have hw8 : w0.heap.size ≤ w8.heap.size := HK8.out.size
                    clear hb c1 RA7 CB7 R7 HS7 HK7 HHZ hw7
                    cases bb
                    case true =>
                      have HS9 : Hid (StreamOk w8 S (k + 40 + 100 * q + 1 + 11 * (j + 1))) := HS8.out.mono (by omega)
                      clear HON R8 HR6
                      as_aux_lemma =>
                        go_wp2_with fail
                        go_roundw
                        case rel => exact ⟨j + 1, by omega, by go_num, _, _, by omega, RA8, CB8, HS9, HK8⟩
                        case measure => simp [intOf]; omega
                    have HOK : Hid (RulesAt w8 w0.heap.size (.slice va2 l.length vc2) l ∧ (∀ x ∈ l ++ [⟨re, rn, rp, rt, rm, rh⟩], DRuleOk x) ∧ OnceR (l ++ [⟨re, rn, rp, rt, rm, rh⟩])) := ⟨RA8.out, fun x hx => by
                      rcases List.mem_append.1 hx with hx | hx
                      · exact RA8.out.ok x hx
                      · have : x = (⟨re, rn, rp, rt, rm, rh⟩ : DRule) := List.mem_singleton.1 hx
                        subst this; exact HR6.out, HON.out rfl⟩
                    have hA : Below w8.heap.size w8 (w8.alloc (.cells #[.string ⟨re.str.toArray⟩, .int .i64 rn, .string ⟨rp.toArray⟩, .int .i64 rt, .string ⟨rm.toArray⟩, .string ⟨rh.toArray⟩] 62)) := ext_alloc (Below.refl _ _)
                    have HRX : Hid (w8.rangeAt R 0 [.string ⟨re.str.toArray⟩, .int .i64 rn, .string ⟨rp.toArray⟩, .int .i64 rt, .string ⟨rm.toArray⟩, .string ⟨rh.toArray⟩]) := R8.out.rng
                    have c1 := CB8.out.cell 1 rfl
                    have HOa := Lib.hid (own_more RA8.out.own hA)
                    have CBa := Lib.hid (CB8.out.below hA)
                    have HSa := Lib.hid (HS8.out.below hA)
                    have HKa := Lib.hid (HK8.out.trans (Keeps.of_below hA))
                    have hml : l.length + 1 ≤ maxLen := by unfold maxLen; omega
                    have hbs : (l.length + 1) * 80 ≤ 140737488355328 := by omega
                    have hsza : w0.heap.size ≤ (w8.alloc (.cells #[.string ⟨re.str.toArray⟩, .int .i64 rn, .string ⟨rp.toArray⟩, .int .i64 rt, .string ⟨rm.toArray⟩, .string ⟨rh.toArray⟩] 62)).heap.size := by simp; omega
                    clear hA CB8 R8 HS8 HK8 HR6 HON RA8
                    as_aux_lemma =>
                      go_wp2_with (first | (refine wpList_load_mid rfl 62 (.tmp 9) rfl R 0 rfl [.string ⟨re.str.toArray⟩, .int .i64 rn, .string ⟨rp.toArray⟩, .int .i64 rt, .string ⟨rm.toArray⟩, .string ⟨rh.toArray⟩] _ HRX.out Tryz.underlying62 rfl Tryz.druleSz ?_) | (refine wpList_val rfl (bl_drp1 _ (fun _ => rfl) _ _ 35 ⟨re.str.toArray⟩ rn ⟨rp.toArray⟩ rt ⟨rm.toArray⟩ ⟨rh.toArray⟩ rfl rfl) ?_) | (at_builtin; refine wpList_append_own _ rfl (.tmp 34) (.tmp 36) 57 rfl w0.heap.size 62 i2 _ 6 80 Tryz.underlying57 hi2 hx0 hx1 hx2 rfl (by decide) (.slice va2 l.length vc2) l.length ((l.map DRule.cells).flatten) rfl HOa.out ⟨w8.heap.size, 0, none⟩ 1 1 [.string ⟨re.str.toArray⟩, .int .i64 rn, .string ⟨rp.toArray⟩, .int .i64 rt, .string ⟨rm.toArray⟩, .string ⟨rh.toArray⟩] rfl rfl (news_alloc _ [.string ⟨re.str.toArray⟩, .int .i64 rn, .string ⟨rp.toArray⟩, .int .i64 rt, .string ⟨rm.toArray⟩, .string ⟨rh.toArray⟩] _) (by simp [Value.oneCell']) hml hbs hsza ?_; intro v9 w9 hown9 hgr9 _; refine Hid.out ?_))
                      refine Lib.hid ?_
                      obtain ⟨a9, c9, rfl⟩ : ∃ a c, v9 = .slice a (l.length + 1) c := by
                        rcases shape_own hown9 with ⟨h0, _⟩ | ⟨g, c, e, _⟩
                        · omega
                        · exact ⟨_, _, e⟩
                      have hb9 : Below w0.heap.size (w8.alloc (.cells #[.string ⟨re.str.toArray⟩, .int .i64 rn, .string ⟨rp.toArray⟩, .int .i64 rt, .string ⟨rm.toArray⟩, .string ⟨rh.toArray⟩] 62)) w9 := gb_to_below hgr9 hsza (fun b hb => by
                        rcases shape_own HOa.out with ⟨_, e⟩ | ⟨g, c, e, h1, _⟩
                        · rw [e] at hb; cases hb
                        · rw [e] at hb; obtain rfl : g = b := Option.some.inj hb; exact h1)
                      have hb10 : Below w0.heap.size (w8.alloc (.cells #[.string ⟨re.str.toArray⟩, .int .i64 rn, .string ⟨rp.toArray⟩, .int .i64 rt, .string ⟨rm.toArray⟩, .string ⟨rh.toArray⟩] 62)) (w9.setCell ⟨C, 1, none⟩ (.slice a9 (l.length + 1) c9)) := hb9.setCell (p := ⟨C, 1, none⟩) hC0 _
                      have CB9 : Blk w9 C _ 59 := CBa.out.grown hgr9 (own_blk HOa.out CBa.out (by decide))
                      have CB10 : Hid (Blk (w9.setCell ⟨C, 1, none⟩ (.slice a9 (l.length + 1) c9)) C [.string ⟨kk.toArray⟩, .slice a9 (l.length + 1) c9, .slice none 0 0] 59) := CB9.put 1 _
                      have q1 := CB9.cell 1 rfl
                      have qf := CB9.fr 1
                      have HS10 : Hid (StreamOk (w9.setCell ⟨C, 1, none⟩ (.slice a9 (l.length + 1) c9)) S (k + 40 + 100 * q + 1 + 11 * (j + 1))) := (HSa.out.upto (hb10.mono (by omega))).mono (by omega)
                      have HK10 : Hid (Keeps S w0 (w9.setCell ⟨C, 1, none⟩ (.slice a9 (l.length + 1) c9))) := keeps_up HKa.out hb10
                      have hgC : w9.grownBy (w9.setCell ⟨C, 1, none⟩ (.slice a9 (l.length + 1) c9)) (some C) := ⟨rfl, rfl, rfl, by simp [World.setCell], fun k hk hn => Below.heap_setCell _ _ _ _ (fun e => hn (by rw [e]))⟩
                      have RA10 : Hid (RulesAt (w9.setCell ⟨C, 1, none⟩ (.slice a9 (l.length + 1) c9)) w0.heap.size (.slice a9 (l.length + 1) c9) (l ++ [⟨re, rn, rp, rt, rm, rh⟩])) := ⟨by
                        rw [List.length_append, List.map_append, List.flatten_append]
                        have e : ([(⟨re, rn, rp, rt, rm, rh⟩ : DRule)].map DRule.cells).flatten = [.string ⟨re.str.toArray⟩, .int .i64 rn, .string ⟨rp.toArray⟩, .int .i64 rt, .string ⟨rm.toArray⟩, .string ⟨rh.toArray⟩] := by simp [DRule.cells]
                        rw [e]
                        exact own_gb hown9 hgC (fun b hb e2 => own_blk hown9 CB9 (by decide) (by rw [hb, e2])), HOK.out.2.1, HOK.out.2.2⟩
                      have hl10 : (l ++ [(⟨re, rn, rp, rt, rm, rh⟩ : DRule)]).length ≤ j + 1 := by rw [List.length_append]; simp; omega
                      clear hgC hown9 hgr9 hb9 hb10 CB9 HOa CBa HSa HKa HRX c1 HOK
                      as_aux_lemma =>
                        go_wp2_with fail
                        go_roundw
                        case rel => exact ⟨j + 1, by omega, by go_num, _, _, hl10, RA10, CB10, HS10, HK10⟩
                        case measure => simp [intOf]; omega
end Go.Proofs.YtkdadbpajhdelaaGreatDoor

set_option linter.unusedVariables false
set_option linter.unusedSimpArgs false
namespace Go.Proofs.YtkdadbpajhdelaaGreatDoor
open Go.RowKit

/-- A forward of a line: la to ld; always, busy, silent; to la to le; no hours, or ha. -/
structure Fwd where
  line : Fin 4
  wh : Fin 3
  to_ : Fin 5
  hr : Fin 2
deriving Inhabited, DecidableEq
def lineK (i : Nat) : List UInt8 := [108, 97 + i.toUInt8]
def hourK (i : Nat) : List UInt8 := if i = 0 then [] else [104, 97]
def Fwd.cells (f : Fwd) : List Value := [.string ⟨(lineK f.line).toArray⟩, .int .i64 (f.wh.val + 1 : Nat), .string ⟨(lineK f.to_).toArray⟩, .string ⟨(hourK f.hr).toArray⟩]
def Fwd.code (f : Fwd) : Nat := f.line * 6 + f.wh * 2 + f.hr
def Fwd.key (f : Fwd) : List UInt8 := lineK f.line ++ [32, 49 + f.wh.val.toUInt8, 32] ++ hourK f.hr
def keyCF (f g : Fwd) : Int := Lib.compareBytes f.key g.key
def codeF (a b : Nat) : Int := if a < b then -1 else if b < a then 1 else 0
theorem key_codes : ∀ (a : Fin 4) (b : Fin 3) (c : Fin 2) (x : Fin 4) (y : Fin 3) (z : Fin 2), Lib.compareBytes (lineK a ++ [32, 49 + b.val.toUInt8, 32] ++ hourK c) (lineK x ++ [32, 49 + y.val.toUInt8, 32] ++ hourK z) = codeF (a * 6 + b * 2 + c) (x * 6 + y * 2 + z) := by decide +kernel
theorem keyCF_is (f g : Fwd) : keyCF f g = codeF f.code g.code := key_codes f.line f.wh f.hr g.line g.wh g.hr
/-- What compareForwards answers. -/
def cmpFw (a b : Fwd) : Int := if Lib.compareBytes (lineK a.line) (lineK b.line) ≠ 0 then Lib.compareBytes (lineK a.line) (lineK b.line) else if a.wh ≠ b.wh then (a.wh.val : Int) - (b.wh.val : Int) else Lib.compareBytes (hourK a.hr) (hourK b.hr)
theorem cmpFw_codes : ∀ (a : Fin 4) (b : Fin 3) (c : Fin 2) (x : Fin 4) (y : Fin 3) (z : Fin 2), (a * 6 + b * 2 + c : Nat) < (x * 6 + y * 2 + z : Nat) → (if Lib.compareBytes (lineK a) (lineK x) ≠ 0 then Lib.compareBytes (lineK a) (lineK x) else if b ≠ y then (b.val : Int) - (y.val : Int) else Lib.compareBytes (hourK c) (hourK z)) < 0 := by decide +kernel
theorem cmpFw_neg {f g : Fwd} (h : f.code < g.code) : cmpFw f g < 0 := cmpFw_codes f.line f.wh f.hr g.line g.wh g.hr h
theorem line_inj : ∀ a, a < 5 → ∀ b, b < 5 → lineK a = lineK b → a = b := by decide
end Go.Proofs.YtkdadbpajhdelaaGreatDoor

set_option linter.unusedVariables false
set_option linter.unusedSimpArgs false
namespace Go.Proofs.YtkdadbpajhdelaaGreatDoor
open Go.RowKit

structure Rate where
  p : List UInt8
  price : Int
  closed : Bool
def noRate : Rate := ⟨[], 0, false⟩
structure Deck where
  from_ : Int
  setup : Int
  least : Int
  step : Int
  ra : Option Addr
  rn : Nat
  rc : Nat
  rates : List Rate
def noDeck : Deck := ⟨0, 0, 0, 0, none, 0, 0, []⟩
structure Carr where
  key : List UInt8
  lines : Int
  da : Option Addr
  dn : Nat
  dc : Nat
  decks : List Deck
def noCarr : Carr := ⟨[], 0, none, 0, 0, []⟩
def Rate.cells (r : Rate) : List Value := [.string ⟨r.p.toArray⟩, .int .i64 r.price, .bool r.closed]
def Deck.cells (d : Deck) : List Value := [.int .i64 d.from_, .int .i64 d.setup, .int .i64 d.least, .int .i64 d.step, .slice d.ra d.rn d.rc]
def Carr.cells (c : Carr) : List Value := [.string ⟨c.key.toArray⟩, .int .i64 c.lines, .slice c.da c.dn c.dc]
/-- Between bounds. -/
def inB (n lo hi : Int) : Bool := decide (lo ≤ n) && decide (n ≤ hi)
/-- The beginning of digits of a number. -/
def preB (s : List UInt8) : Bool := digitsB s 0 15 && !(Lib.hasPrefix s [48])
/-- The error of rate i. -/
def rateErr (l : List Rate) (i : Nat) : Int :=
  if preB (l.getD i noRate).p = false then 3
  else if 0 < i ∧ Op.bytesLess (l.getD (i - 1) noRate).p (l.getD i noRate).p = false then 7
  else if inB (l.getD i noRate).price 0 100000000 = false then 1
  else if (l.getD i noRate).closed = true ∧ (l.getD i noRate).price ≠ 0 then 3
  else 0
def deckNum (d : Deck) : Bool := isMomB d.from_ && (inB d.setup 0 100000000 && (inB d.least 0 86400000 && inB d.step 1 86400000))
def deckErr (d : Deck) : Int :=
  if deckNum d = false then 1 else if 5000 < d.rates.length then 2 else firstErr (rateErr d.rates) d.rates.length
def deckAtErr (l : List Deck) (k : Nat) : Int :=
  if deckErr (l.getD k noDeck) ≠ 0 then deckErr (l.getD k noDeck) else if 0 < k ∧ (l.getD k noDeck).from_ ≤ (l.getD (k - 1) noDeck).from_ then 7 else 0
def carrErr (l : List Carr) (i : Nat) : Int :=
  if isKeyB (l.getD i noCarr).key = false then 5
  else if 0 < i ∧ Op.bytesLess (l.getD (i - 1) noCarr).key (l.getD i noCarr).key = false then 7
  else if inB (l.getD i noCarr).lines 1 100000 = false then 1
  else if 20 < (l.getD i noCarr).decks.length then 2
  else firstErr (deckAtErr (l.getD i noCarr).decks) (l.getD i noCarr).decks.length
def carrsErr (l : List Carr) : Int := if 50 < l.length then 2 else firstErr (carrErr l) l.length

/-- Rates, decks, carriers in memory. -/
structure RateRow (w : World) (a : Option Addr) (n : Nat) (l : List Rate) : Prop where
  cells : Cells w 3 a n (l.map Rate.cells)
  few : n ≤ 5000
  each : ∀ i, i < l.length → (l.getD i noRate).p.length ≤ 100000 ∧ -2000000000000 ≤ (l.getD i noRate).price ∧ (l.getD i noRate).price ≤ 2000000000000
theorem RateRow.below {w w' : World} {a : Option Addr} {n : Nat} {l : List Rate} (h : RateRow w a n l) (hb : Below w.heap.size w w') : RateRow w' a n l := ⟨h.cells.below hb, h.few, h.each⟩
theorem RateRow.len {w : World} {a : Option Addr} {n : Nat} {l : List Rate} (h : RateRow w a n l) : n = l.length := by have := h.cells.len; simpa using this
structure DeckFine (w : World) (d : Deck) : Prop where
  row : RateRow w d.ra d.rn d.rates
  cap : d.rn ≤ d.rc
  b1 : -2000000000000 ≤ d.from_ ∧ d.from_ ≤ 2000000000000
  b2 : -2000000000000 ≤ d.setup ∧ d.setup ≤ 2000000000000
  b3 : -2000000000000 ≤ d.least ∧ d.least ≤ 2000000000000
  b4 : -2000000000000 ≤ d.step ∧ d.step ≤ 2000000000000
theorem DeckFine.below {w w' : World} {d : Deck} (h : DeckFine w d) (hb : Below w.heap.size w w') : DeckFine w' d := ⟨h.row.below hb, h.cap, h.b1, h.b2, h.b3, h.b4⟩
structure DeckRow (w : World) (a : Option Addr) (n : Nat) (l : List Deck) : Prop where
  cells : Cells w 5 a n (l.map Deck.cells)
  few : n ≤ 100
  each : ∀ i, i < l.length → DeckFine w (l.getD i noDeck)
theorem DeckRow.below {w w' : World} {a : Option Addr} {n : Nat} {l : List Deck} (h : DeckRow w a n l) (hb : Below w.heap.size w w') : DeckRow w' a n l := ⟨h.cells.below hb, h.few, fun i hi => (h.each i hi).below hb⟩
theorem DeckRow.len {w : World} {a : Option Addr} {n : Nat} {l : List Deck} (h : DeckRow w a n l) : n = l.length := by have := h.cells.len; simpa using this
structure CarrFine (w : World) (c : Carr) : Prop where
  row : DeckRow w c.da c.dn c.decks
  cap : c.dn ≤ c.dc
  key : c.key.length ≤ 100
  b1 : -2000000000000 ≤ c.lines ∧ c.lines ≤ 2000000000000
theorem CarrFine.below {w w' : World} {d : Carr} (h : CarrFine w d) (hb : Below w.heap.size w w') : CarrFine w' d := ⟨h.row.below hb, h.cap, h.key, h.b1⟩
structure CarrRow (w : World) (a : Option Addr) (n : Nat) (l : List Carr) : Prop where
  cells : Cells w 3 a n (l.map Carr.cells)
  few : n ≤ 50
  each : ∀ i, i < l.length → CarrFine w (l.getD i noCarr)
theorem CarrRow.below {w w' : World} {a : Option Addr} {n : Nat} {l : List Carr} (h : CarrRow w a n l) (hb : Below w.heap.size w w') : CarrRow w' a n l := ⟨h.cells.below hb, h.few, fun i hi => (h.each i hi).below hb⟩
theorem CarrRow.len {w : World} {a : Option Addr} {n : Nat} {l : List Carr} (h : CarrRow w a n l) : n = l.length := by have := h.cells.len; simpa using this
theorem RateRow.at {w : World} {a : Option Addr} {n : Nat} {l : List Rate} (h : RateRow w a n l) (hn : 0 < n) : ∃ b off, a = some ⟨b, off, none⟩ ∧ b < w.heap.size ∧ ∀ i, i < n → w.cell? ⟨b, off + i * 3, none⟩ = some (.string ⟨(l.getD i noRate).p.toArray⟩) ∧ w.cell? ⟨b, off + i * 3 + 1, none⟩ = some (.int .i64 (l.getD i noRate).price) ∧ w.cell? ⟨b, off + i * 3 + 2, none⟩ = some (.bool (l.getD i noRate).closed) := by
  have hl := h.len
  rcases h.cells.row with h0 | ⟨b, off, ha, hb, hc⟩
  · omega
  · refine ⟨b, off, ha, hb, fun i hi => ?_⟩
    have k0 := hc i hi 0 (by omega)
    have k1 := hc i hi 1 (by omega)
    have k2 := hc i hi 2 (by omega)
    rw [getD_map Rate.cells l i noRate [] (by omega)] at k0 k1 k2
    exact ⟨k0, k1, k2⟩
theorem DeckRow.at {w : World} {a : Option Addr} {n : Nat} {l : List Deck} (h : DeckRow w a n l) (hn : 0 < n) : ∃ b off, a = some ⟨b, off, none⟩ ∧ b < w.heap.size ∧ ∀ i, i < n → w.cell? ⟨b, off + i * 5, none⟩ = some (.int .i64 (l.getD i noDeck).from_) ∧ w.cell? ⟨b, off + i * 5 + 1, none⟩ = some (.int .i64 (l.getD i noDeck).setup) ∧ w.cell? ⟨b, off + i * 5 + 2, none⟩ = some (.int .i64 (l.getD i noDeck).least) ∧ w.cell? ⟨b, off + i * 5 + 3, none⟩ = some (.int .i64 (l.getD i noDeck).step) ∧ w.cell? ⟨b, off + i * 5 + 4, none⟩ = some (.slice (l.getD i noDeck).ra (l.getD i noDeck).rn (l.getD i noDeck).rc) := by
  have hl := h.len
  rcases h.cells.row with h0 | ⟨b, off, ha, hb, hc⟩
  · omega
  · refine ⟨b, off, ha, hb, fun i hi => ?_⟩
    have k0 := hc i hi 0 (by omega)
    have k1 := hc i hi 1 (by omega)
    have k2 := hc i hi 2 (by omega)
    have k3 := hc i hi 3 (by omega)
    have k4 := hc i hi 4 (by omega)
    rw [getD_map Deck.cells l i noDeck [] (by omega)] at k0 k1 k2 k3 k4
    exact ⟨k0, k1, k2, k3, k4⟩
theorem CarrRow.at {w : World} {a : Option Addr} {n : Nat} {l : List Carr} (h : CarrRow w a n l) (hn : 0 < n) : ∃ b off, a = some ⟨b, off, none⟩ ∧ b < w.heap.size ∧ ∀ i, i < n → w.cell? ⟨b, off + i * 3, none⟩ = some (.string ⟨(l.getD i noCarr).key.toArray⟩) ∧ w.cell? ⟨b, off + i * 3 + 1, none⟩ = some (.int .i64 (l.getD i noCarr).lines) ∧ w.cell? ⟨b, off + i * 3 + 2, none⟩ = some (.slice (l.getD i noCarr).da (l.getD i noCarr).dn (l.getD i noCarr).dc) := by
  have hl := h.len
  rcases h.cells.row with h0 | ⟨b, off, ha, hb, hc⟩
  · omega
  · refine ⟨b, off, ha, hb, fun i hi => ?_⟩
    have k0 := hc i hi 0 (by omega)
    have k1 := hc i hi 1 (by omega)
    have k2 := hc i hi 2 (by omega)
    rw [getD_map Carr.cells l i noCarr [] (by omega)] at k0 k1 k2
    exact ⟨k0, k1, k2⟩
end Go.Proofs.YtkdadbpajhdelaaGreatDoor

set_option linter.unusedVariables false
set_option linter.unusedSimpArgs false
namespace Go.Proofs.YtkdadbpajhdelaaGreatDoor
open Go.RowKit

structure Shr where
  c : List UInt8
  part : Int
def noShr : Shr := ⟨[], 0⟩
def Shr.cells (s : Shr) : List Value := [.string ⟨s.c.toArray⟩, .int .i64 s.part]
def hasC (l : List Carr) (k : List UInt8) : Bool := l.any fun c => decide (c.key = k)
def shareErr (l : List Carr) (s : List Shr) (i : Nat) : Int :=
  if hasC l (s.getD i noShr).c = false then 8
  else if 0 < i ∧ Op.bytesLess (s.getD (i - 1) noShr).c (s.getD i noShr).c = false then 7
  else if inB (s.getD i noShr).part 1 1000 = false then 1
  else 0
def partSum (s : List Shr) : Nat → Int
  | 0 => 0
  | k + 1 => partSum s k + (s.getD k noShr).part
def sharesErr (l : List Carr) (s : List Shr) : Int :=
  if 50 < s.length then 2 else if firstErr (shareErr l s) s.length ≠ 0 then firstErr (shareErr l s) s.length else if partSum s s.length ≠ 1000 then 16 else 0
def sentErr (s : List Shr) (sent : List Int) : Int :=
  if s.length ≠ sent.length then 3 else if sent.any (fun n => !(inB n 0 1000000000000)) = true then 1 else 0
/-- The error of CheckShares; of Turn. -/
def shrE (l : List Carr) (s : List Shr) : Int := if carrsErr l ≠ 0 then carrsErr l else sharesErr l s
def turnE (l : List Carr) (s : List Shr) (sent : List Int) : Int :=
  if carrsErr l ≠ 0 then carrsErr l else if s.length ≠ 0 ∧ sharesErr l s ≠ 0 then sharesErr l s else sentErr s sent
def sumTo (l : List Int) : Nat → Int
  | 0 => 0
  | k + 1 => sumTo l k + l.getD k 0
def behind (s : List Shr) (sent : List Int) (i : Nat) : Int := (s.getD i noShr).part * (sumTo sent s.length + 1) - 1000 * sent.getD i 0
def turnTo (s : List Shr) (sent : List Int) : Nat → List UInt8 × Int
  | 0 => ([], 0)
  | k + 1 => if k = 0 ∨ (turnTo s sent k).2 < behind s sent k then ((s.getD k noShr).c, behind s sent k) else turnTo s sent k
def turnK (s : List Shr) (sent : List Int) : List UInt8 := (turnTo s sent s.length).1
theorem turn_some {s : List Shr} {sent : List Int} (h : ∀ i, i < s.length → (s.getD i noShr).c ≠ []) : ∀ k, k ≤ s.length → ((turnTo s sent k).1 = [] ↔ k = 0)
  | 0, _ => by simp [turnTo]
  | k + 1, hk => by
    have ih := turn_some (sent := sent) h k (by omega)
    unfold turnTo
    split
    · exact ⟨fun e => absurd e (h k (by omega)), fun e => by omega⟩
    · rename_i h1
      rw [ih]
      exact ⟨fun e => absurd (Or.inl e) h1, fun e => by omega⟩
theorem sum_bound {l : List Int} (h : ∀ i, i < l.length → 0 ≤ l.getD i 0 ∧ l.getD i 0 ≤ 1000000000000) : ∀ k, k ≤ l.length → 0 ≤ sumTo l k ∧ sumTo l k ≤ 1000000000000 * k
  | 0, _ => by simp [sumTo]
  | k + 1, hk => by
    have h1 := sum_bound h k (by omega)
    have h2 := h k (by omega)
    unfold sumTo
    omega

structure Rcd where
  id : List UInt8
  fr : List UInt8
  to_ : List UInt8
  at_ : Int
  ring : Int
  talk : Int
  how : Int
  carrier : List UInt8
def noRcd : Rcd := ⟨[], [], [], 0, 0, 0, 0, []⟩
def Rcd.cells (r : Rcd) : List Value := [.string ⟨r.id.toArray⟩, .string ⟨r.fr.toArray⟩, .string ⟨r.to_.toArray⟩, .int .i64 r.at_, .int .i64 r.ring, .int .i64 r.talk, .int .i64 r.how, .string ⟨r.carrier.toArray⟩]
def recErr (l : List Carr) (rs : List Rcd) (i : Nat) : Int :=
  if isMomB (rs.getD i noRcd).at_ = false ∨ inB (rs.getD i noRcd).talk 0 86400000 = false then 1
  else if inB (rs.getD i noRcd).how 1 4 = false then 4
  else if (rs.getD i noRcd).carrier ≠ [] ∧ hasC l (rs.getD i noRcd).carrier = false then 8
  else 0
def winErr (f t : Int) : Int := if 0 ≤ f ∧ f ≤ t ∧ t ≤ 345686400000 then 0 else 1
def recsErr (l : List Carr) (rs : List Rcd) (f t : Int) : Int :=
  if 3000 < rs.length then 2 else if firstErr (recErr l rs) rs.length ≠ 0 then firstErr (recErr l rs) rs.length else winErr f t
def measE (l : List Carr) (rs : List Rcd) (f t : Int) : Int := if carrsErr l ≠ 0 then carrsErr l else recsErr l rs f t
/-- Calls, good ones, and how long these were talked, of a carrier among the first records. -/
structure Cnt where
  calls : Int
  good : Int
  talk : Int
def inWin (key : List UInt8) (f t : Int) (r : Rcd) : Prop := r.carrier = key ∧ f ≤ r.at_ ∧ r.at_ < t
instance (key : List UInt8) (f t : Int) (r : Rcd) : Decidable (inWin key f t r) := by unfold inWin; exact inferInstance
def cntTo (rs : List Rcd) (key : List UInt8) (f t : Int) : Nat → Cnt
  | 0 => ⟨0, 0, 0⟩
  | k + 1 =>
    let c := cntTo rs key f t k
    let r := rs.getD k noRcd
    if inWin key f t r then (if r.how = 1 then ⟨c.calls + 1, c.good + 1, c.talk + r.talk⟩ else ⟨c.calls + 1, c.good, c.talk⟩) else c
theorem cnt_bound {rs : List Rcd} {key : List UInt8} {f t : Int} (h : ∀ i, i < rs.length → 0 ≤ (rs.getD i noRcd).talk ∧ (rs.getD i noRcd).talk ≤ 86400000) : ∀ k, k ≤ rs.length →
    0 ≤ (cntTo rs key f t k).good ∧ (cntTo rs key f t k).good ≤ (cntTo rs key f t k).calls ∧ (cntTo rs key f t k).calls ≤ k ∧ 0 ≤ (cntTo rs key f t k).talk ∧ (cntTo rs key f t k).talk ≤ 86400000 * (cntTo rs key f t k).good
  | 0, _ => by simp [cntTo]
  | k + 1, hk => by
    have h1 := cnt_bound (key := key) (f := f) (t := t) h k (by omega)
    have h2 := h k (by omega)
    unfold cntTo
    simp only
    split
    · split
      · simp only; omega
      · simp only; omega
    · omega
structure Qual where
  c : List UInt8
  calls : Int
  good : Int
  num : Int
  den : Int
def Qual.cells (q : Qual) : List Value := [.string ⟨q.c.toArray⟩, .int .i64 q.calls, .int .i64 q.good, .int .i64 q.num, .int .i64 q.den]
/-- A fraction in lowest terms (b above 0). -/
def lowF (a b : Int) : Int × Int := (((a.toNat / Nat.gcd a.toNat b.toNat : Nat) : Int), ((b.toNat / Nat.gcd a.toNat b.toNat : Nat) : Int))
def qual (rs : List Rcd) (key : List UInt8) (f t : Int) : Option Qual :=
  let c := cntTo rs key f t rs.length
  if c.calls = 0 then none else some ⟨key, c.calls, 1000 * c.good / c.calls, (lowF c.talk (max c.good 1)).1, (lowF c.talk (max c.good 1)).2⟩
def quals (l : List Carr) (rs : List Rcd) (f t : Int) (k : Nat) : List Qual := (List.range k).filterMap fun i => qual rs (l.getD i noCarr).key f t
theorem quals_succ (l : List Carr) (rs : List Rcd) (f t : Int) (k : Nat) : quals l rs f t (k + 1) = quals l rs f t k ++ (qual rs (l.getD k noCarr).key f t).toList := by
  unfold quals
  rw [List.range_succ, List.filterMap_append]
  congr 1
end Go.Proofs.YtkdadbpajhdelaaGreatDoor

set_option linter.unusedVariables false
set_option linter.unusedSimpArgs false
namespace Go.Proofs.YtkdadbpajhdelaaGreatDoor
open Go.RowKit

/-- The blocks with p stay. -/
def KeepsIf (p : Nat → Prop) (w W : World) : Prop := w.heap.size ≤ W.heap.size ∧ ∀ b, b < w.heap.size → p b → W.heap[b]? = w.heap[b]?
theorem KeepsIf.refl (p : Nat → Prop) (w : World) : KeepsIf p w w := ⟨Nat.le_refl _, fun _ _ _ => rfl⟩
theorem KeepsIf.trans {p : Nat → Prop} {a b c : World} (h : KeepsIf p a b) (k : KeepsIf p b c) : KeepsIf p a c :=
  ⟨Nat.le_trans h.1 k.1, fun i hi hp => (k.2 i (Nat.lt_of_lt_of_le hi h.1) hp).trans (h.2 i hi hp)⟩
theorem KeepsIf.weak {p q : Nat → Prop} {w W : World} (h : KeepsIf p w W) (hq : ∀ b, b < w.heap.size → q b → p b) : KeepsIf q w W := ⟨h.1, fun b hb k => h.2 b hb (hq b hb k)⟩
theorem KeepsIf.of_keeps {p : Nat → Prop} {S : Nat} {w W : World} (h : Keeps S w W) (hp : ∀ b, p b → b ≠ S) : KeepsIf p w W := ⟨h.size, fun b hb k => h.block b hb (hp b k)⟩
theorem KeepsIf.of_below {p : Nat → Prop} {w W : World} (h : Below w.heap.size w W) : KeepsIf p w W := ⟨h.size, fun b hb k => h.block b hb⟩
theorem KeepsIf.grown {p : Nat → Prop} {w W : World} {row : Option Nat} (h : w.grownBy W row) (hp : ∀ b, p b → row ≠ some b) : KeepsIf p w W := ⟨h.size, fun b hb k => h.block b hb (fun e => hp b k e.symm)⟩
theorem KeepsIf.set {p : Nat → Prop} {w : World} {q : Addr} {v : Value} (hp : ∀ b, p b → q.block ≠ b) : KeepsIf p w (w.setCell q v) := ⟨by simp, fun b hb k => Below.heap_setCell _ _ _ _ (fun e => hp b k e.symm)⟩
theorem KeepsIf.alloc {p : Nat → Prop} (w : World) (o : Obj) : KeepsIf p w (w.alloc o) := ⟨by simp, fun b hb k => Below.heap_alloc _ _ _ hb⟩
theorem own_if {p : Nat → Prop} {w W : World} {base : Nat} {e : TypeId} {size : Nat} {v : Value} {n : Nat} {xs : List Value} (h : w.ownsRow base e size v n xs) (hk : KeepsIf p w W) (hp : ∀ b, v.ownBlock = some b → p b) : W.ownsRow base e size v n xs := by
  refine ⟨h.1, h.2.imp id ?_⟩
  rintro ⟨g, cap, cur, rfl, h1, h2, h3⟩
  exact ⟨g, cap, cur, rfl, h1, (hk.2 g (Array.getElem?_eq_some_iff.1 h2).1 (hp g rfl)).trans h2, h3⟩
theorem own_ge {p : Nat → Prop} {w W : World} {base : Nat} {e : TypeId} {size : Nat} {v : Value} {n : Nat} {xs : List Value} (h : w.ownsRow base e size v n xs) (hk : KeepsIf (fun b => base ≤ b) w W) : W.ownsRow base e size v n xs := own_if h hk (fun b e => (h.lt b e).1)
theorem own_caps {w : World} {base : Nat} {e : TypeId} {size : Nat} {a : Option Addr} {m c : Nat} {n : Nat} {xs : List Value} (h : w.ownsRow base e size (.slice a m c) n xs) : m = n ∧ n ≤ c := by
  rcases h.2 with ⟨h1, h0⟩ | ⟨g, cap, cur, h1, _, _, h4, _⟩
  · injection h1 with e1 e2 e3; omega
  · injection h1 with e1 e2 e3; omega

/-- Rates with bounds. -/
def RatesOk (l : List Rate) : Prop := l.length ≤ 50 ∧ ∀ r ∈ l, r.p.length ≤ 100 ∧ -2000000000000 ≤ r.price ∧ r.price ≤ 2000000000000
def DeckBounds (d : Deck) : Prop := (-2000000000000 ≤ d.from_ ∧ d.from_ ≤ 2000000000000) ∧ (-2000000000000 ≤ d.setup ∧ d.setup ≤ 2000000000000) ∧ (-2000000000000 ≤ d.least ∧ d.least ≤ 2000000000000) ∧ (-2000000000000 ≤ d.step ∧ d.step ≤ 2000000000000)
theorem mem_getD {α : Type} {l : List α} {i : Nat} (d : α) (h : i < l.length) : l.getD i d ∈ l := by
  rw [List.getD_eq_getElem?_getD, List.getElem?_eq_getElem h]
  exact List.getElem_mem h
/-- Decks that stay where the blocks with p stay. -/
def DecksIf (p : Nat → Prop) (w : World) (l : List Deck) : Prop := ∀ W, KeepsIf p w W → ∀ i, i < l.length → DeckFine W (l.getD i noDeck)
theorem DecksIf.nil (p : Nat → Prop) (w : World) : DecksIf p w [] := fun W hW i hi => by cases hi
theorem DecksIf.on {p q : Nat → Prop} {w w' : World} {l : List Deck} (h : DecksIf p w l) (hk : ∀ W, KeepsIf q w' W → KeepsIf p w W) : DecksIf q w' l := fun W hW => h W (hk W hW)
theorem getD_snoc {α : Type} (l : List α) (x d : α) (i : Nat) : (l ++ [x]).getD i d = if i < l.length then l.getD i d else if i = l.length then x else d := by
  by_cases h : i < l.length
  · rw [if_pos h]; simp [List.getElem?_append_left h]
  · rw [if_neg h]
    by_cases h2 : i = l.length
    · subst h2; simp
    · rw [if_neg h2, List.getD_eq_getElem?_getD, List.getElem?_eq_none (by simp; omega)]; rfl
theorem DecksIf.snoc {p : Nat → Prop} {w : World} {l : List Deck} {d : Deck} (h : DecksIf p w l) (hd : ∀ W, KeepsIf p w W → DeckFine W d) : DecksIf p w (l ++ [d]) := fun W hW i hi => by
  rw [getD_snoc]
  by_cases h1 : i < l.length
  · rw [if_pos h1]; exact h W hW i h1
  · rw [if_neg h1, if_pos (by simp at hi; omega)]; exact hd W hW
/-- Carriers that stay where the blocks with p stay. -/
def CarrsIf (p : Nat → Prop) (w : World) (l : List Carr) : Prop := ∀ W, KeepsIf p w W → ∀ i, i < l.length → CarrFine W (l.getD i noCarr)
theorem CarrsIf.nil (p : Nat → Prop) (w : World) : CarrsIf p w [] := fun W hW i hi => by cases hi
theorem CarrsIf.on {p q : Nat → Prop} {w w' : World} {l : List Carr} (h : CarrsIf p w l) (hk : ∀ W, KeepsIf q w' W → KeepsIf p w W) : CarrsIf q w' l := fun W hW => h W (hk W hW)
theorem CarrsIf.snoc {p : Nat → Prop} {w : World} {l : List Carr} {d : Carr} (h : CarrsIf p w l) (hd : ∀ W, KeepsIf p w W → CarrFine W d) : CarrsIf p w (l ++ [d]) := fun W hW i hi => by
  rw [getD_snoc]
  by_cases h1 : i < l.length
  · rw [if_pos h1]; exact h W hW i h1
  · rw [if_neg h1, if_pos (by simp at hi; omega)]; exact hd W hW
theorem CarrsIf.set {p : Nat → Prop} {w : World} {l : List Carr} {d : Carr} {r : Nat} (h : CarrsIf p w l) (hd : ∀ W, KeepsIf p w W → CarrFine W d) : CarrsIf p w (l.set r d) := fun W hW i hi => by
  have hi2 : i < l.length := by simpa using hi
  by_cases h1 : i = r
  · subst h1
    have : (l.set i d).getD i noCarr = d := by simp [hi2]
    rw [this]; exact hd W hW
  · have : (l.set r d).getD i noCarr = l.getD i noCarr := by simp [List.getElem?_set, Ne.symm h1]
    rw [this]; exact h W hW i hi2
end Go.Proofs.YtkdadbpajhdelaaGreatDoor
