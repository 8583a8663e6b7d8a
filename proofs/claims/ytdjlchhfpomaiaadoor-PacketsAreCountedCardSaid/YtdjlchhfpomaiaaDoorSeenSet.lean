/- What is proved here: a set of ints, kept as a map to bool that the call makes. No condition. -/
import Derived.Test.YtdjlchhfpomaiaaDoorCountMath
import Derived.Maps.OwnSet
import Derived.Maps.OwnOps
set_option linter.unusedVariables false
set_option linter.unusedSimpArgs false
namespace Go.Proofs.YtdjlchhfpomaiaaDoor
open Go.RowKit Go.Maps

theorem seenLaw : Keyed Tryd.prog 3 := int_keyed Tryd.underlying3
theorem seenZero (w : World) : (zeroValue 4).run Tryd.prog w = .ok (.bool false) w := by kernel_rfl
theorem seenUnder : Tryd.prog.underlying 95 = some (.map 3 4) := by kernel_rfl

/-- Block b is a map that says true of what is listed. -/
def SeenAt (w : World) (b n : Nat) (ds : List Int) : Prop :=
  ∃ D : DataW Unit, w.ownsMap Tryd.prog 3 (plainElem Tryd.prog 4) b n D ∧ (∀ x, D.atKey (.int .i64 x) (.lit (.bool false)) = .lit (.bool (ds.contains x))) ∧ (∀ x, Maps.has D (.int .i64 x) = ds.contains x) ∧ Maps.size D = ds.length

theorem plainElem_bool_inv {P : Program} {e : TypeId} (he : P.underlying e = some .bool) {v : Value} {z : DataW Unit × List MemPlace} (h : plainElem P e v = some z) : ∃ x, v = .bool x ∧ z = (.lit (.bool x), []) := by
  unfold plainElem at h
  rw [he] at h
  cases v <;> simp at h
  exact ⟨_, rfl, h.symm⟩

theorem SeenAt.made (w : World) : SeenAt (w.alloc (.map #[] 0)) w.heap.size 0 [] :=
  ⟨.map [], World.ownsMap_made _ _ _ _, fun x => rfl, fun x => rfl, rfl⟩
theorem SeenAt.lt {w : World} {b n : Nat} {ds : List Int} (h : SeenAt w b n ds) : b < w.heap.size := by
  obtain ⟨D, ho, _⟩ := h
  exact ho.lt
theorem SeenAt.setCell {w : World} {b n : Nat} {ds : List Int} (h : SeenAt w b n ds) {a : Addr} (ha : b ≠ a.block) (u : Value) : SeenAt (w.setCell a u) b n ds := by
  obtain ⟨D, ho, r⟩ := h
  exact ⟨D, ho.setCell ha u, r⟩
theorem SeenAt.below {w w' : World} {b n : Nat} {ds : List Int} (h : SeenAt w b n ds) (hb : Below w.heap.size w w') : SeenAt w' b n ds := by
  obtain ⟨D, ho, r⟩ := h
  exact ⟨D, ho.kept (row := none) ⟨hb.os, hb.tape, hb.output, hb.size, fun k hk _ => hb.block k hk⟩ (by simp), r⟩

theorem seen_wf {x : Int} (h0 : -9223372036854775808 ≤ x) (h1 : x ≤ 9223372036854775807) : (Lit.int .i64 x).wf = true := WalkArith.wf_i64 (by omega)

theorem SeenAt.look {w : World} {b n : Nat} {ds : List Int} (h : SeenAt w b n ds) {x : Int} (hx : (Lit.int .i64 x).wf = true) : (Instr.lookup 95 (.map (some b)) (.int .i64 x) false).run Tryd.prog w = .ok (.bool (ds.contains x)) w := by
  obtain ⟨D, ho, hat, _⟩ := h
  obtain ⟨v, ps, hrun, hv⟩ := ho.lookup seenLaw seenUnder (seenZero w) (plainElem_bool Tryd.underlying4 false) (keyOf_int_mk Tryd.underlying3 hx)
  obtain ⟨c, rfl, hc⟩ := plainElem_bool_inv Tryd.underlying4 hv
  rw [hat] at hc
  simp only [Prod.mk.injEq, DataW.lit.injEq, Lit.bool.injEq] at hc
  rw [hrun, hc.1]
theorem SeenAt.count {w : World} {b n : Nat} {ds : List Int} (h : SeenAt w b n ds) (ty : TypeId) : (Builtin.len_ #[95] ty #[.map (some b)]).run Tryd.prog w = .ok (.int .i64 ds.length) w := by
  obtain ⟨D, ho, _, _, hs⟩ := h
  rw [ho.len seenUnder, hs]
theorem SeenAt.more {w : World} {b n : Nat} {ds : List Int} (h : SeenAt w b n ds) (hn : n < maxLen) {x : Int} (hx : (Lit.int .i64 x).wf = true) : ∃ w', (Instr.mapUpdate 95 (.map (some b)) (.int .i64 x) (.bool true)).run Tryd.prog w = .ok () w' ∧ SeenAt w' b (n + 1) (if ds.contains x then ds else ds ++ [x]) ∧ w.grownBy w' (some b) := by
  obtain ⟨D, ho, hat, hhas, hs⟩ := h
  obtain ⟨w', hrun, ho', hg⟩ := ho.update seenLaw seenUnder hn (keyOf_int_mk Tryd.underlying3 hx) (plainElem_bool Tryd.underlying4 true)
  have hm := ho.isMap
  have hk : WideAt.IsKeyLit (.int .i64 x) := trivial
  have hin : ∀ y, (if ds.contains x then ds else ds ++ [x]).contains y = (decide (y = x) || ds.contains y) := by
    intro y
    by_cases hc : ds.contains x = true
    · rw [if_pos hc]
      by_cases hy : y = x
      · subst hy; simp at hc; simp [hc]
      · simp [hy]
    · rw [if_neg hc]
      by_cases hy : y = x
      · simp [hy]
      · simp [hy]
  refine ⟨w', hrun, ⟨_, ho', fun y => ?_, fun y => ?_, ?_⟩, hg⟩
  · rw [hin]
    by_cases hy : y = x
    · subst hy; rw [atKey_put_same hm hk]; simp
    · rw [atKey_put_other (by intro e; injection e with _ e; exact hy e), hat]; simp [hy]
  · rw [hin]
    by_cases hy : y = x
    · subst hy; rw [has_put_same hm hk]; simp
    · rw [has_put_other (by intro e; injection e with _ e; exact hy e), hhas]; simp [hy]
  · rw [size_put (ho.tidy seenLaw), hhas, hs]
    by_cases hc : ds.contains x = true
    · rw [if_pos hc, if_pos hc]
    · rw [if_neg hc, if_neg hc]; simp

/-- The store at its operation. -/
theorem wpList_seen (w : World) {ops : Array Oper} {rest : List Oper} {o : Oper} {a : Act} {Q : Exit → Act → World → Prop}
    (hg : o.guard = none) (m x v : Operand) (hop : o.op = Op.mapUpdate 95 m x v) (b n : Nat) (ds : List Int) (hm : a.eval m = .map (some b)) (h : SeenAt w b n ds) (hn : n < maxLen) (y : Int) (hx : a.eval x = .int .i64 y) (hv : a.eval v = .bool true) (hy : (Lit.int .i64 y).wf = true)
    (hK : ∀ w', SeenAt w' b (n + 1) (if ds.contains y then ds else ds ++ [y]) → w.grownBy w' (some b) → wpList Tryd.prog ops Q rest (a.put o.dst undef) w') : wpList Tryd.prog ops Q (o :: rest) a w := by
  refine wpList_plain hg fun K' hK' => ?_
  obtain ⟨w', hrun, r1, r2⟩ := h.more hn hy
  unfold Oper.wp
  simp [execOp, hop, hm, hx, hv, hrun, Result.andThen]
  exact hK' _ _ (hK w' r1 r2)
end Go.Proofs.YtdjlchhfpomaiaaDoor
