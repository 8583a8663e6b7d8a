/- What is proved here: a region that draws its order but whose order is forced, up to operations that yield in every world, is walked in one order. No condition beyond those stated. -/
import Derived.Test.YtbimecknmojnoaaGreatDoorRegionLast
namespace Go.Proofs.YtbimecknmojnoaaGreatDoor

section
variable {P : Program} {ops : Array Oper} {Q : Exit → Act → World → Prop}

/-- The order fits the region: what is marked 'true' may be taken first, what is marked 'false' is the only one that may come up. -/
def seqOkI (ops : Array Oper) : List (Bool × Nat) → Array Bool → Bool
  | [], listed => (Region.ready .any ops listed).isEmpty
  | (true, i) :: rest, listed => (ops[i]?).isSome && Region.free .any ops listed i && (Region.ready .any ops listed).contains i && seqOkI ops rest (listed.setIfInBounds i true)
  | (false, i) :: rest, listed => (ops[i]?).isSome && (Region.ready .any ops listed == [i]) && seqOkI ops rest (listed.setIfInBounds i true)

def noOper : Oper := ⟨none, .move (.const undef), 0, "", #[], none⟩
/-- The operations in that order. -/
def seqOps (L : List Oper) : List (Bool × Nat) → List (Bool × Oper)
  | [] => []
  | (b, i) :: rest => (b, L.getD i noOper) :: seqOps L rest

/-- The region in that order. -/
def wpSeqI (P : Program) (ops : Array Oper) (Q : Exit → Act → World → Prop) (S : World → Prop) : List (Bool × Oper) → Act → World → Prop
  | [], a, w => Q .normal a w
  | (true, o) :: rest, a, w => ∃ v, YieldsIf P ops S o v a ∧ (∀ c a w, Q (.panic c) (a.put o.dst v) w → Q (.panic c) a w) ∧ wpSeqI P ops Q S rest (a.put o.dst v) w
  | (false, o) :: rest, a, w => Region.wanted o (yielded ops a.tmps) = true ∧ o.wp P a w (fun a' w' => S w' ∧ wpSeqI P ops Q S rest a' w') Q

theorem seqI_take {S : World → Prop} {o : Oper} {rest : List (Bool × Oper)} {a : Act} {w : World} {v : Value} (hw : Region.wanted o (yielded ops a.tmps) = true) (hv : ∀ w, S w → (execOp a.eval o).run P w = .ok (.value v) w) (hQ : ∀ c a w, Q (.panic c) (a.put o.dst v) w → Q (.panic c) a w) (h : wpSeqI P ops Q S rest (a.put o.dst v) w) : wpSeqI P ops Q S ((true, o) :: rest) a w :=
  ⟨v, Or.inl ⟨hw, hv⟩, hQ, h⟩
theorem seqI_skip {S : World → Prop} {o : Oper} {rest : List (Bool × Oper)} {a : Act} {w : World} (hw : Region.wanted o (yielded ops a.tmps) = false) (hQ : ∀ c a w, Q (.panic c) (a.put o.dst undef) w → Q (.panic c) a w) (h : wpSeqI P ops Q S rest (a.put o.dst undef) w) : wpSeqI P ops Q S ((true, o) :: rest) a w :=
  ⟨undef, Or.inr ⟨hw, rfl⟩, hQ, h⟩
/-- A call of a Go function. -/
theorem seqI_call {S : World → Prop} {o : Oper} {rest : List (Bool × Oper)} {a : Act} {w : World} {R : Ending → World → Prop} (f : Nat) (vs : Array Value) (hw : Region.wanted o (yielded ops a.tmps) = true) (h : (execOp a.eval o).run P w = .ok (.enter f vs) w) (hc : Calls P f vs w R) (hR : ∀ e w', R e w' → ∃ v, e = .returned v ∧ S w' ∧ wpSeqI P ops Q S rest (a.put o.dst v) w') : wpSeqI P ops Q S ((false, o) :: rest) a w := by
  refine ⟨hw, ?_⟩
  unfold Oper.wp; rw [h]
  refine Calls.mono hc fun e w' he => ?_
  obtain ⟨v, rfl, hk⟩ := hR e w' he
  exact hk
/-- Any other operation. -/
theorem seqI_do {S : World → Prop} {o : Oper} {rest : List (Bool × Oper)} {a : Act} {w : World} (hw : Region.wanted o (yielded ops a.tmps) = true) (h : o.wp P a w (fun a' w' => S w' ∧ wpSeqI P ops Q S rest a' w') Q) : wpSeqI P ops Q S ((false, o) :: rest) a w := ⟨hw, h⟩
theorem seqI_nil {S : World → Prop} {a : Act} {w : World} (h : Q .normal a w) : wpSeqI P ops Q S [] a w := h

theorem seqI_held {S : World → Prop} {L : List Oper} (hs : Region.noSelect L.toArray = true) : ∀ (l : List (Bool × Nat)) (listed : Array Bool) (a : Act) (w : World), seqOkI L.toArray l listed = true → S w →
    wpSeqI P L.toArray Q S (seqOps L l) a w → wpAnyH P .any L.toArray Q S l.length listed a w
  | [], listed, a, w, hok, hS, h => wpAnyH_done (by simpa [seqOkI] using hok) h _
  | (true, i) :: l, listed, a, w, hok, hS, h => by
    obtain ⟨v, hy, hQ, h⟩ := h
    simp only [seqOkI, Bool.and_eq_true] at hok
    have ho : L.toArray[i]? = some (L.getD i noOper) := by
      have h1 := hok.1.1.1
      obtain ⟨o, ho⟩ := Option.isSome_iff_exists.1 h1
      rw [ho]
      have : L[i]? = some o := by simpa using ho
      rw [List.getD_eq_getElem?_getD, this]; rfl
    exact wpAnyH_take ho hs hok.1.1.2 hok.1.2 hQ hy hS (seqI_held hs l _ _ w hok.2 hS h)
  | (false, i) :: l, listed, a, w, hok, hS, h => by
    obtain ⟨hw, h⟩ := h
    simp only [seqOkI, Bool.and_eq_true, beq_iff_eq] at hok
    have ho : L.toArray[i]? = some (L.getD i noOper) := by
      have h1 := hok.1.1
      obtain ⟨o, ho⟩ := Option.isSome_iff_exists.1 h1
      rw [ho]
      have : L[i]? = some o := by simpa using ho
      rw [List.getD_eq_getElem?_getD, this]; rfl
    refine wpAnyH_all hok.1.2 (by simp) (fun j hj => ?_)
    simp only [List.mem_singleton] at hj
    subst hj
    unfold wpOp
    simp only [ho]
    rw [if_pos hw]
    exact Or.inl (Oper.wp_mono (fun a' w' h' => ⟨h'.1, seqI_held hs l _ a' w' hok.2 h'.1 h'.2⟩) h)

/-- **A region that draws, in a forced order.** -/
theorem region_seqI {S : World → Prop} {id : Nat} {L : List Oper} {a : Act} {w : World} (l : List (Bool × Nat)) (hm : P.follows .mixedOrders = true) (hs : Region.noSelect L.toArray = true) (hlen : l.length = L.toArray.size) (hok : seqOkI L.toArray l (Array.replicate L.toArray.size false) = true)
    (hS : S w.drew) (h : wpSeqI P L.toArray Q S (seqOps L l) a w.drew) : (Code.region id L.toArray true).wp P Q a w :=
  wp_region_held_drew (S := S) hm hS fun hS => by rw [← hlen] at hok ⊢; exact seqI_held hs l _ _ _ hok hS h
end
end Go.Proofs.YtbimecknmojnoaaGreatDoor
