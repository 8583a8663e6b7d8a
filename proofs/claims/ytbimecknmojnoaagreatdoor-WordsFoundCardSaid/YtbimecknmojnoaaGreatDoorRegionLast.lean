/- What is proved here: a region that draws its order and whose last operation waits for all the others may be walked without that one, which comes behind. No condition beyond those stated. -/
import Derived.Deep.RegionHeld3
namespace Go.Proofs.YtbimecknmojnoaaGreatDoor

/-- Each operation ahead of number m is waited for by one behind it, up to m; an operation waits for earlier ones alone; guards name operations ahead of m. -/
def lastChk (ops : Array Oper) (m : Nat) : Bool :=
  ((List.range m).all fun i => (List.range (m + 1)).any fun k => decide (i < k) && ((ops[k]?).map fun o => o.after.any fun e => Region.binds .any e && e.on == i).getD false) &&
  ((List.range (m + 1)).all fun i => ((ops[i]?).map fun o => o.after.all fun e => !Region.binds .any e || decide (e.on < i)).getD false) &&
  ((List.range m).all fun i => ((ops[i]?).map fun o => match o.guard with | none => true | some (g, _) => decide (g < m)).getD true)

/-- The post of the region without its last operation: that operation is still to come. -/
def lastQ (P : Program) (st : Oper) (Q : Exit → Act → World → Prop) : Exit → Act → World → Prop
  | .normal, a, w => Oper.wp P st a w (fun a' w' => Q .normal a' w') Q ∨ (st.asks P a w ∧ LetsOut Q)
  | e, a, w => Q e a w

section
variable {P : Program} {ops : Array Oper} {Q : Exit → Act → World → Prop} {st : Oper} {m : Nat}

theorem lastQ_other {e : Exit} {a : Act} {w : World} (h : lastQ P st Q e a w) (hn : e ≠ .normal) : Q e a w := by
  cases e <;> first | exact h | exact absurd rfl hn

theorem upon_last {o : Oper} {a : Act} {K K' : Act → World → Prop} (hK : ∀ a w, K a w → K' a w) (r : Result Next) (h : o.upon P a K (lastQ P st Q) r) : o.upon P a K' Q r := by
  cases r with
  | ok n w' =>
    cases n <;> simp only [Oper.upon] at h ⊢ <;>
      first
        | exact hK _ _ h
        | exact Calls.mono h (fun e w'' he => by cases e <;> first | exact hK _ _ he | exact he)
        | exact Rows.mono h (fun _ _ he => hK _ _ he)
  | halt x w' => cases x <;> simp only [Oper.upon] at h ⊢ <;> exact h

variable (ops) in
/-- What is listed has all that it waits for listed. -/
def ClosedL (l : Array Bool) : Prop := ∀ i o, ops[i]? = some o → l.getD i false = true → ∀ e ∈ o.after, Region.binds .any e = true → l.getD e.on false = true

theorem ClosedL.set {l : Array Bool} {i : Nat} (h : ClosedL ops l) (hr : i ∈ Region.ready .any ops l) : ClosedL ops (l.setIfInBounds i true) := by
  intro j o ho hj e he hb
  by_cases hji : j = i
  · subst hji
    obtain ⟨_, o', ho', hall⟩ := mem_ready.1 hr
    rw [ho] at ho'; cases ho'
    exact getD_set_true (hall e he hb)
  · rw [getD_set_ne false (Ne.symm hji)] at hj
    exact getD_set_true (h j o ho hj e he hb)

theorem getD_two {l : Array Bool} {i : Nat} (hi : i < l.size) (b c : Bool) : l.getD i b = l.getD i c := by simp [hi]

theorem chk1 (hc : lastChk ops m = true) (i : Nat) (hi : i < m) : ∃ k o, i < k ∧ k ≤ m ∧ ops[k]? = some o ∧ ∃ e ∈ o.after, Region.binds .any e = true ∧ e.on = i := by
  simp only [lastChk, Bool.and_eq_true, List.all_eq_true, List.any_eq_true, List.mem_range, decide_eq_true_eq] at hc
  obtain ⟨k, hk, hik, hk2⟩ := hc.1.1 i hi
  cases ho : ops[k]? with
  | none => simp [ho] at hk2
  | some o =>
    simp only [ho, Option.map_some, Option.getD_some] at hk2
    obtain ⟨e, he, hb⟩ := Array.any_eq_true'.1 hk2
    simp only [Bool.and_eq_true, beq_iff_eq] at hb
    exact ⟨k, o, hik, by omega, ho, e, he, hb.1, hb.2⟩

theorem chk2 (hc : lastChk ops m = true) (i : Nat) (hi : i ≤ m) : ∃ o, ops[i]? = some o ∧ ∀ e ∈ o.after, Region.binds .any e = true → e.on < i := by
  simp only [lastChk, Bool.and_eq_true, List.all_eq_true, List.mem_range] at hc
  have h := hc.1.2 i (by omega)
  cases ho : ops[i]? with
  | none => simp [ho] at h
  | some o =>
    simp only [ho, Option.map_some, Option.getD_some] at h
    refine ⟨o, rfl, fun e he hb => ?_⟩
    have h1 := Array.all_eq_true_iff_forall_mem.1 h e he
    simpa [hb] using h1

theorem chk3 (hc : lastChk ops m = true) (i : Nat) (hi : i < m) (o : Oper) (ho : ops[i]? = some o) (g : Nat) (b : Bool) (hg : o.guard = some (g, b)) : g < m := by
  simp only [lastChk, Bool.and_eq_true, List.all_eq_true, List.mem_range] at hc
  have h := hc.2 i hi
  simpa [ho, hg] using h

/-- If the last may come up, all others are listed. -/
theorem all_listed (hc : lastChk ops m = true) {l : Array Bool} (hl : l.size = m + 1) (hcl : ClosedL ops l) (hr : m ∈ Region.ready .any ops l) : ∀ i, i < m → l.getD i true = true := by
  obtain ⟨_, om, hom, hall⟩ := mem_ready.1 hr
  have main : ∀ d i, i < m → m - i ≤ d → l.getD i false = true := by
    intro d
    induction d with
    | zero => intro i hi h; omega
    | succ d ih =>
      intro i hi h
      obtain ⟨k, o, hik, hkm, ho, e, he, hb, hon⟩ := chk1 hc i hi
      rcases Nat.lt_or_ge k m with hk | hk
      · rw [← hon]; exact hcl k o ho (ih k hk (by omega)) e he hb
      · obtain rfl : k = m := by omega
        rw [hom] at ho; cases ho
        rw [← hon]; exact hall e he hb
  intro i hi
  rw [getD_two (by omega) true false]
  exact main (m - i) i hi (Nat.le_refl _)

/-- If none of the others may come up, all are listed. -/
theorem listed_of_none (hc : lastChk ops m = true) {l : Array Bool} (hl : l.size = m + 1) (hn : ∀ i, i < m → i ∉ Region.ready .any ops l) : ∀ i, i < m → l.getD i true = true := by
  intro i
  induction i using Nat.strongRecOn with
  | _ i ih =>
    intro hi
    rcases Bool.eq_false_or_eq_true (l.getD i true) with h | h
    · exact h
    · refine absurd (mem_ready.2 ⟨h, ?_⟩) (hn i hi)
      obtain ⟨o, ho, hd⟩ := chk2 hc i (by omega)
      refine ⟨o, ho, fun e he hb => ?_⟩
      have := hd e he hb
      rw [getD_two (by omega) false true]
      exact ih e.on this (by omega)

theorem ready_all {l : Array Bool} (hsz : ops.size = m + 1) (h : ∀ i, i < m + 1 → l.getD i true = true) : Region.ready .any ops l = [] := by
  refine List.eq_nil_iff_forall_not_mem.2 fun i hi => ?_
  obtain ⟨h0, o, ho, _⟩ := mem_ready.1 hi
  have hlt := (Array.getElem?_eq_some_iff.1 ho).1
  rw [h i (by omega)] at h0
  cases h0

/-- The step of the last operation. -/
theorem last_step (hsz : ops.size = m + 1) (hst : ops[m]? = some st) (hg : st.guard = none) {l : Array Bool} (hl : l.size = m + 1) (h : ∀ i, i < m → l.getD i true = true) {a : Act} {w : World} (hq : lastQ P st Q .normal a w) (fuel : Nat) :
    wpOp P ops Q m (wpAny P .any ops Q fuel (l.setIfInBounds m true)) a w := by
  unfold wpOp
  simp only [hst]
  rw [if_pos (by simp [Region.wanted, hg])]
  refine hq.imp (Oper.wp_mono (fun a' w' h' => wpAny_done (ready_all hsz fun i hi => ?_) h' fuel)) id
  by_cases him : i = m
  · subst him; simp [hl]
  · rw [getD_set_ne true (Ne.symm him)]; exact h i (by omega)

theorem wpOp_last {ops' : Array Oper} (hc : lastChk ops m = true) (hsame : ∀ i, i < m → ops'[i]? = ops[i]?) {i : Nat} (hi : i < m) {K K' : Act → World → Prop} (hK : ∀ a w, K a w → K' a w) {a : Act} {w : World} (h : wpOp P ops' (lastQ P st Q) i K a w) : wpOp P ops Q i K' a w := by
  unfold wpOp at *
  rw [hsame i hi] at h
  cases ho : ops[i]? with
  | none => simp only [ho] at h ⊢; exact hK _ _ h
  | some o =>
    simp only [ho] at h ⊢
    have hw : Region.wanted o (yielded ops' a.tmps) = Region.wanted o (yielded ops a.tmps) := by
      unfold Region.wanted
      cases hgd : o.guard with
      | none => rfl
      | some gb =>
        obtain ⟨g, b⟩ := gb
        have := chk3 hc i hi o ho g b hgd
        simp only [yielded, hsame g this]
    rw [hw] at h
    split
    · rename_i hwt
      simp only [hwt, if_true] at h
      rcases h with h | ⟨h1, a1, w1, h2⟩
      · exact Or.inl (upon_last hK _ h)
      · exact Or.inr ⟨h1, a1, w1, h2⟩
    · rename_i hwt
      simp only [hwt] at h
      exact hK _ _ h

theorem last_any {ops' : Array Oper} (hsz : ops.size = m + 1) (hst : ops[m]? = some st) (hg : st.guard = none) (hc : lastChk ops m = true) (hsz' : ops'.size = m) (hsame : ∀ i, i < m → ops'[i]? = ops[i]?) :
    ∀ (fuel : Nat) (l l' : Array Bool) (a : Act) (w : World), l.size = m + 1 → l'.size = m → (∀ i, i < m → l'.getD i true = l.getD i true) → l.getD m true = false → ClosedL ops l →
      wpAny P .any ops' (lastQ P st Q) fuel l' a w → wpAny P .any ops Q (fuel + 1) l a w := by
  have rdy : ∀ {l l' : Array Bool} {i : Nat}, l.size = m + 1 → l'.size = m → (∀ i, i < m → l'.getD i true = l.getD i true) → i < m → (i ∈ Region.ready .any ops l ↔ i ∈ Region.ready .any ops' l') := by
    intro l l' i hl hl' he hi
    rw [mem_ready, mem_ready, hsame i hi, he i hi]
    obtain ⟨o, ho, hd⟩ := chk2 hc i (by omega)
    have key : ∀ e ∈ o.after, Region.binds .any e = true → l'.getD e.on false = l.getD e.on false := fun e hem hb => by
      have := hd e hem hb
      rw [getD_two (by omega) false true, he e.on (by omega), getD_two (l := l) (by omega) false true]
    constructor
    · rintro ⟨h0, o', ho', hall⟩
      rw [ho] at ho'; cases ho'
      exact ⟨h0, o, ho, fun e hem hb => by rw [key e hem hb]; exact hall e hem hb⟩
    · rintro ⟨h0, o', ho', hall⟩
      rw [ho] at ho'; cases ho'
      exact ⟨h0, o, ho, fun e hem hb => by rw [← key e hem hb]; exact hall e hem hb⟩
  have rlt : ∀ {l' : Array Bool} {i : Nat}, i ∈ Region.ready .any ops' l' → i < m := fun hi => by
    obtain ⟨_, o, ho, _⟩ := mem_ready.1 hi
    have := (Array.getElem?_eq_some_iff.1 ho).1
    omega
  have mrdy : ∀ {l : Array Bool}, l.size = m + 1 → l.getD m true = false → (∀ i, i < m → l.getD i true = true) → m ∈ Region.ready .any ops l := fun {l} hl hm h => by
    obtain ⟨o, ho, hd⟩ := chk2 hc m (Nat.le_refl _)
    exact mem_ready.2 ⟨hm, o, ho, fun e he hb => by have := hd e he hb; rw [getD_two (by omega) false true]; exact h _ this⟩
  have ile : ∀ {l : Array Bool} {i : Nat}, i ∈ Region.ready .any ops l → i ≤ m := fun hi => by
    obtain ⟨_, o, ho, _⟩ := mem_ready.1 hi
    have := (Array.getElem?_eq_some_iff.1 ho).1
    omega
  have nonempty : ∀ {l l' : Array Bool}, l.size = m + 1 → l'.size = m → (∀ i, i < m → l'.getD i true = l.getD i true) → l.getD m true = false → Region.ready .any ops l ≠ [] := by
    intro l l' hl hl' he hm h0
    have h1 := listed_of_none hc hl (fun i hi hr => by rw [h0] at hr; cases hr)
    have := mrdy hl hm h1
    rw [h0] at this; cases this
  intro fuel
  induction fuel with
  | zero =>
    intro l l' a w hl hl' he hm hcl H
    refine ⟨fun h0 => absurd h0 (nonempty hl hl' he hm), fun i hi => ?_⟩
    by_cases him : i = m
    · subst him
      exact last_step hsz hst hg hl (all_listed hc hl hcl hi) H.2 0
    · have := (rdy hl hl' he (by have := ile hi; omega)).1 hi
      rw [H.1] at this; cases this
  | succ fuel ih =>
    intro l l' a w hl hl' he hm hcl H
    refine ⟨fun h0 => absurd h0 (nonempty hl hl' he hm), fun i hi => ?_⟩
    by_cases him : i = m
    · subst him
      have hall := all_listed hc hl hcl hi
      refine last_step hsz hst hg hl hall (H.1 ?_) (fuel + 1)
      refine List.eq_nil_iff_forall_not_mem.2 fun j hj => ?_
      have hjm := rlt hj
      have h0 := (mem_ready.1 hj).1
      rw [he j hjm, hall j hjm] at h0; cases h0
    · have hilt : i < m := by have := ile hi; omega
      refine wpOp_last hc hsame hilt (fun a' w' h' => ?_) (H.2 i ((rdy hl hl' he hilt).1 hi))
      refine ih _ _ a' w' (by simpa using hl) (by simpa using hl') (fun j hj => ?_) ?_ (hcl.set hi) h'
      · by_cases hji : j = i
        · subst hji; simp [hl, hl', hj, Nat.lt_succ_of_lt hj]
        · rw [getD_set_ne true (Ne.symm hji), getD_set_ne true (Ne.symm hji)]; exact he j hj
      · rw [getD_set_ne true him]; exact hm

/-- **A region that draws, walked without its last operation**: S need not hold behind that one. -/
theorem region_last_held {S : World → Prop} {id : Nat} {ops' : Array Oper} {a : Act} {w : World} (hm : P.follows .mixedOrders = true) (hops : ops = ops'.push st) (hg : st.guard = none) (hc : lastChk ops ops'.size = true)
    (hS : S w.drew) (h : S w.drew → wpAnyH P .any ops' (lastQ P st Q) S ops'.size (Array.replicate ops'.size false) a w.drew) : (Code.region id ops true).wp P Q a w := by
  refine wp_region_any hm ?_
  have hsz : ops.size = ops'.size + 1 := by rw [hops]; simp
  rw [hsz]
  refine last_any (m := ops'.size) hsz (by rw [hops]; simp) hg hc rfl (fun i hi => by rw [hops]; simp [Array.getElem?_push, Nat.ne_of_lt hi]) _ _ _ a _ (by simp) (by simp) (fun i hi => by simp [hi, Nat.lt_succ_of_lt hi]) (by simp) ?_ (wpAny_of_held _ _ _ _ (h hS))
  intro i o ho hl e he hb
  exfalso
  by_cases h' : i < ops'.size + 1
  · simp [h'] at hl
  · simp [h'] at hl

/-! ### A fixed order: what yields in every world that meets S is taken first ('true'); the rest comes up one by one ('false') -/

/-- The order fits the region. -/
def seqOk (ops : Array Oper) : List (Bool × Nat) → Array Bool → Bool
  | [], listed => (Region.ready .any ops listed).isEmpty
  | (true, i) :: rest, listed => (ops[i]?).isSome && Region.free .any ops listed i && (Region.ready .any ops listed).contains i && seqOk ops rest (listed.setIfInBounds i true)
  | (false, i) :: rest, listed => (Region.ready .any ops listed == [i]) && ((ops[i]?).map fun o => o.guard.isNone).getD false && seqOk ops rest (listed.setIfInBounds i true)

/-- The region in that order. -/
def wpSeq (P : Program) (ops : Array Oper) (Q : Exit → Act → World → Prop) (S : World → Prop) : List (Bool × Oper) → Act → World → Prop
  | [], a, w => Q .normal a w
  | (true, o) :: rest, a, w => ∃ v, YieldsIf P ops S o v a ∧ wpSeq P ops Q S rest (a.put o.dst v) w
  | (false, o) :: rest, a, w => o.wp P a w (fun a' w' => S w' ∧ wpSeq P ops Q S rest a' w') Q

theorem wpSeq_take {S : World → Prop} {o : Oper} {rest : List (Bool × Oper)} {a : Act} {w : World} {v : Value} (hw : Region.wanted o (yielded ops a.tmps) = true) (hv : ∀ w, S w → (execOp a.eval o).run P w = .ok (.value v) w) (h : wpSeq P ops Q S rest (a.put o.dst v) w) : wpSeq P ops Q S ((true, o) :: rest) a w :=
  ⟨v, Or.inl ⟨hw, hv⟩, h⟩
theorem wpSeq_skip {S : World → Prop} {o : Oper} {rest : List (Bool × Oper)} {a : Act} {w : World} (hw : Region.wanted o (yielded ops a.tmps) = false) (h : wpSeq P ops Q S rest (a.put o.dst undef) w) : wpSeq P ops Q S ((true, o) :: rest) a w :=
  ⟨undef, Or.inr ⟨hw, rfl⟩, h⟩
theorem wpSeq_do {S : World → Prop} {o : Oper} {rest : List (Bool × Oper)} {a : Act} {w : World} (h : ∀ K' : Act → World → Prop, Shut (∀ a w, S w → (S w → wpSeq P ops Q S rest a w) → K' a w) → Oper.wp P o a w K' Q) : wpSeq P ops Q S ((false, o) :: rest) a w :=
  h _ (fun _ _ hS hW => ⟨hS, hW hS⟩)
theorem wpSeq_nil {S : World → Prop} {a : Act} {w : World} (h : Q .normal a w) : wpSeq P ops Q S [] a w := h

theorem seq_held {S : World → Prop} (hs : Region.noSelect ops = true) (hQ : ∀ c a (d : Option Tmp) (v : Value) w, Q (.panic c) (a.put d v) w → Q (.panic c) a w) : ∀ (l : List (Bool × Nat)) (lo : List (Bool × Oper)) (listed : Array Bool) (a : Act) (w : World), l.map (fun p => (p.1, ops[p.2]?)) = lo.map (fun p => (p.1, some p.2)) → seqOk ops l listed = true → S w →
    wpSeq P ops Q S lo a w → wpAnyH P .any ops Q S l.length listed a w
  | [], lo, listed, a, w, he, hok, hS, h => by
    cases lo with
    | cons x xs => simp at he
    | nil => exact wpAnyH_done (by simpa [seqOk] using hok) h _
  | (b, i) :: l, lo, listed, a, w, he, hok, hS, h => by
    cases lo with
    | nil => simp at he
    | cons x xs =>
      obtain ⟨b', o⟩ := x
      simp only [List.map_cons, List.cons.injEq, Prod.mk.injEq] at he
      obtain ⟨⟨rfl, ho⟩, he⟩ := he
      cases b with
      | true =>
        obtain ⟨v, hy, h⟩ := h
        simp only [seqOk, Bool.and_eq_true] at hok
        exact wpAnyH_take ho hs hok.1.1.2 hok.1.2 (fun c a w => hQ c a _ _ w) hy hS (seq_held hs hQ l xs _ _ w he hok.2 hS h)
      | false =>
        simp only [seqOk, Bool.and_eq_true, beq_iff_eq, ho, Option.map_some, Option.getD_some] at hok
        refine wpAnyH_all hok.1.1 (by simp) (fun j hj => ?_)
        simp only [List.mem_singleton] at hj
        subst hj
        unfold wpOp
        simp only [ho]
        rw [if_pos (by simp only [Region.wanted]; cases hg : o.guard with | none => rfl | some g => simp [hg] at hok)]
        exact Or.inl (Oper.wp_mono (fun a' w' h' => ⟨h'.1, seq_held hs hQ l xs _ a' w' he hok.2 h'.1 h'.2⟩) h)

/-- **A region that draws, in a fixed order, without its last operation.** -/
theorem region_seq_last {S : World → Prop} {id : Nat} {L : List Oper} {a : Act} {w : World} (l : List (Bool × Nat)) (lo : List (Bool × Oper)) (hm : P.follows .mixedOrders = true) (hst : L.getLast? = some st) (hg : st.guard = none) (hc : lastChk L.toArray (L.length - 1) = true)
    (hs : Region.noSelect L.dropLast.toArray = true) (hlen : l.length = L.length - 1) (hok : seqOk L.dropLast.toArray l (Array.replicate (L.length - 1) false) = true) (hlo : l.map (fun p => (p.1, L.dropLast.toArray[p.2]?)) = lo.map (fun p => (p.1, some p.2)))
    (hQ : ∀ c a (d : Option Tmp) (v : Value) w, Q (.panic c) (a.put d v) w → Q (.panic c) a w) (hS : S w.drew) (h : S w.drew → wpSeq P L.dropLast.toArray (lastQ P st Q) S lo a w.drew) : (Code.region id L.toArray true).wp P Q a w := by
  have hd : L.dropLast.toArray.size = L.length - 1 := by simp
  refine region_last_held (S := S) (ops' := L.dropLast.toArray) (st := st) hm ?_ hg (by rw [hd]; exact hc) hS fun hS => ?_
  · obtain ⟨hne, he⟩ : ∃ hne : L ≠ [], L.getLast hne = st := by
      cases L with
      | nil => simp at hst
      | cons x xs => exact ⟨by simp, by rw [List.getLast?_eq_some_getLast (by simp)] at hst; exact Option.some.inj hst⟩
    have := List.dropLast_concat_getLast hne
    rw [he] at this
    conv => lhs; rw [← this]
    simp
  · have hok' : seqOk L.dropLast.toArray l (Array.replicate L.dropLast.toArray.size false) = true := by rw [hd]; exact hok
    have hl : L.dropLast.toArray.size = l.length := by rw [hd, hlen]
    have := seq_held (Q := lastQ P st Q) hs (fun c a d v w h => hQ c a d v w h) l lo _ _ _ hlo hok' hS (h hS)
    rw [← hl] at this
    exact this

/-- **A region that draws, in a fixed order.** -/
theorem region_seq {S : World → Prop} {id : Nat} {a : Act} {w : World} (l : List (Bool × Nat)) (lo : List (Bool × Oper)) (hm : P.follows .mixedOrders = true)
    (hs : Region.noSelect ops = true) (hlen : l.length = ops.size) (hok : seqOk ops l (Array.replicate ops.size false) = true) (hlo : l.map (fun p => (p.1, ops[p.2]?)) = lo.map (fun p => (p.1, some p.2)))
    (hQ : ∀ c a (d : Option Tmp) (v : Value) w, Q (.panic c) (a.put d v) w → Q (.panic c) a w) (hS : S w.drew) (h : S w.drew → wpSeq P ops Q S lo a w.drew) : (Code.region id ops true).wp P Q a w :=
  wp_region_held_drew (S := S) hm hS fun hS => by rw [← hlen] at hok ⊢; exact seq_held hs hQ l lo _ _ _ hlo hok hS (h hS)

/-- The order that is found by taking what may be taken first. -/
def seqFind (can : Nat → Bool) (ops : Array Oper) : Nat → Array Bool → List (Bool × Nat)
  | 0, _ => []
  | fuel + 1, listed =>
    match (Region.ready .any ops listed).find? (fun i => can i && Region.free .any ops listed i) with
    | some i => (true, i) :: seqFind can ops fuel (listed.setIfInBounds i true)
    | none => match Region.ready .any ops listed with
      | [] => []
      | i :: _ => (false, i) :: seqFind can ops fuel (listed.setIfInBounds i true)
end
end Go.Proofs.YtbimecknmojnoaaGreatDoor
