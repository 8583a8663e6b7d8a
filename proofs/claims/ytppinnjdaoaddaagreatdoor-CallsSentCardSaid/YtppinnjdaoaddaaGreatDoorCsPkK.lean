/- What is proved here: lemmas and contracts for the statement, put together out of smaller texts (RegionNoS, CarrCso, CarrSnt, CarrEqS, CarrFo). No condition beyond those stated. -/
import Derived.Test.YtppinnjdaoaddaaGreatDoorCsPkD
import Derived.Test.YtppinnjdaoaddaaGreatDoorCsPkJ
import Derived.Test.YtppinnjdaoaddaaGreatDoorCsPkE
import Derived.Test.YtppinnjdaoaddaaGreatDoorCsPkI
import Derived.Test.YtppinnjdaoaddaaGreatDoorShelfSent
import Derived.Laws.StructEq
set_option linter.unusedVariables false
namespace Go.Proofs.YtppinnjdaoaddaaGreatDoor.NoS
open Go.RowKit

/-- Nothing that was there has turned. -/
def Keeps (_ : Nat) (w w' : World) : Prop := Below w.heap.size w w'
def StreamOk (_ : World) (_ _ : Nat) : Prop := True
theorem Keeps.below {S : Nat} {w w' : World} (h : Keeps S w w') : Below w.heap.size w w' := h
theorem Keeps.size {S : Nat} {w w' : World} (h : Keeps S w w') : w.heap.size ≤ w'.heap.size := Below.size h
theorem Keeps.refl (S : Nat) (w : World) : Keeps S w w := Below.refl _ _
theorem Keeps.trans {S : Nat} {a b c : World} (h : Keeps S a b) (k : Keeps S b c) : Keeps S a c := ext_trans h k
theorem Keeps.alloc {S : Nat} {a w : World} (h : Keeps S a w) (o : Obj) : Keeps S a (w.alloc o) := ext_alloc h
theorem Keeps.cell {S : Nat} {w w' : World} (h : Keeps S w w') {p : Addr} (hp : p.block < w.heap.size) : w'.cell? p = w.cell? p := Below.cell h hp
theorem Keeps.frozen {S : Nat} {w w' : World} (h : Keeps S w w') {p : Addr} (hp : p.block < w.heap.size) : w'.frozen? p = w.frozen? p := Below.frozen h hp
theorem Keeps.of_below {S : Nat} {w w' : World} (h : Below w.heap.size w w') : Keeps S w w' := h
theorem StreamOk.below {w w' : World} {S k : Nat} (h : StreamOk w S k) (b : Below w.heap.size w w') : StreamOk w' S k := trivial
theorem StreamOk.mono {w : World} {S k k' : Nat} (h : StreamOk w S k) (hk : k ≤ k') : StreamOk w S k' := trivial

section
variable {P : Program} {ops : Array Oper} {Q : Exit → Act → World → Prop}

/-- What is known of an operation's value: a property of the value; or a slice over a block of its own, whose cells are listed. -/
inductive Spec where
  | val (p : Value → Prop)
  | arr (n : Nat) (p : List Value → Prop)
  | mem (p : World → Value → Prop)

def Spec.holds (S : Nat) (w : World) : Spec → Value → Prop
  | .val p, v => p v
  | .arr n p, v => ∃ b vs, v = .slice (some ⟨b, 0, none⟩) n n ∧ p vs ∧ b < w.heap.size ∧ ∀ (j : Nat) (u : Value), vs[j]? = some u → w.cell? ⟨b, j, none⟩ = some u
  | .mem p, v => ∀ w', Keeps S w w' → p w' v

theorem Spec.holds.keeps {S : Nat} {w w' : World} {s : Spec} {v : Value} (h : s.holds S w v) (k : Keeps S w w') : s.holds S w' v := by
  cases s with
  | val p => exact h
  | arr n p =>
    obtain ⟨b, vs, hv, hp, hl, hc⟩ := h
    exact ⟨b, vs, hv, hp, Nat.lt_of_lt_of_le hl k.size, fun j u hj => (k.cell (p := ⟨b, j, none⟩) hl).trans (hc j u hj)⟩
  | mem p => exact fun w'' k' => h w'' (k.trans k')

def GenB (S k : Nat) (w0 : World) (c : Nat) (w : World) : Prop := Keeps S w0 w ∧ StreamOk w S (k + c)

/-- What is to be shown of operation i: it may look at what it waits for, and at what was there. -/
def GenStep (P : Program) (ops : Array Oper) (Q : Exit → Act → World → Prop) (a0 : Act) (S k : Nat) (w0 : World) (specs : List Spec) (total : Nat) (calls : List Nat) (i : Nat) : Prop :=
  ∀ (o : Oper) (s : Spec) (a : Act) (w : World) (c : Nat), ops[i]? = some o → specs[i]? = some s → Keeps S w0 w → StreamOk w S (k + c) → c + (if calls.contains i then 1 else 0) ≤ total →
    (∀ t, (∀ j, dstOf ops j ≠ some t) → a.eval (.tmp t) = a0.eval (.tmp t)) →
    (∀ e ∈ o.after, Region.binds .any e = true → ∀ t s', dstOf ops e.on = some t → specs[e.on]? = some s' → s'.holds S w (a.eval (.tmp t))) →
    ∀ K : Act → World → Prop, (∀ v w', s.holds S w' v → Keeps S w w' → StreamOk w' S (k + (c + if calls.contains i then 1 else 0)) → K (a.put o.dst v) w') → Oper.wp P o a w K Q

/-- The operations' temporaries are different ones and lie in the frame; the first ones have no guard and each a spec. -/
def genChk (ops : Array Oper) (size m : Nat) (calls : List Nat) : Bool :=
  ((List.range ops.size).all fun i => (List.range ops.size).all fun j => i == j || (match dstOf ops i with | none => true | some d => decide (d < size) && dstOf ops j != some d)) &&
  ((List.range m).all fun i => ((ops[i]?).map fun o => o.guard.isNone).getD false) && decide (m ≤ ops.size) && decide (1 < ops.size) && decide calls.Nodup && calls.all (fun i => decide (i < m))

theorem countP_set (calls : List Nat) (hn : calls.Nodup) (f : Nat → Bool) (i : Nat) (hu : f i = false) : calls.countP (fun j => if j = i then true else f j) = calls.countP f + if calls.contains i then 1 else 0 := by
  induction calls with
  | nil => simp
  | cons x xs ih =>
    have ih := ih (List.nodup_cons.1 hn).2
    have hx := (List.nodup_cons.1 hn).1
    by_cases hxi : x = i
    · subst hxi
      have : xs.countP (fun j => if j = x then true else f j) = xs.countP f := by
        refine List.countP_congr fun j hj => ?_
        have : j ≠ x := fun e => hx (e ▸ hj)
        simp [this]
      rw [List.countP_cons, this, List.countP_cons]
      simp [hu]
    · have hc : (x :: xs).contains i = xs.contains i := by simp [Ne.symm hxi]
      rw [hc, List.countP_cons, List.countP_cons, ih]
      simp [hxi]
      omega

theorem gen_any {m : Nat} {a0 : Act} {S k : Nat} {w0 : World} {specs : List Spec} {calls : List Nat} (hc : genChk ops a0.tmps.size m calls = true) (hlen : specs.length = m)
    (hstep : ∀ i, i < m → GenStep P (ops.extract 0 m) Q a0 S k w0 specs calls.length calls i)
    (hend : ∀ (vals : Nat → Value) (w : World), Keeps S w0 w → StreamOk w S (k + calls.length) → (∀ (i : Nat) (s : Spec), specs[i]? = some s → s.holds S w (vals i)) → Q .normal (putSome (ops.extract 0 m) vals (fun _ => true) (List.range m) a0) w) :
    ∀ (fuel : Nat) (l : Array Bool) (vals : Nat → Value) (w : World), l.size = m → Keeps S w0 w → StreamOk w S (k + calls.countP (fun i => l.getD i true)) → (∀ (i : Nat) (s : Spec), l.getD i true = true → specs[i]? = some s → s.holds S w (vals i)) → (l.toList.countP (fun b => !b) ≤ fuel) →
      (∀ i, i < m → ∃ o, (ops.extract 0 m)[i]? = some o ∧ ∀ e ∈ o.after, Region.binds .any e = true → e.on < i) →
      wpAny P .any (ops.extract 0 m) Q fuel l (putSome (ops.extract 0 m) vals (fun i => l.getD i true) (List.range m) a0) w := by
  simp only [genChk, Bool.and_eq_true, List.all_eq_true, List.mem_range, decide_eq_true_eq, Bool.or_eq_true, beq_iff_eq] at hc
  obtain ⟨⟨⟨⟨⟨hdst, hgd⟩, hmn⟩, h1n⟩, hnd⟩, hcm⟩ := hc
  have dsub : ∀ i t, dstOf (ops.extract 0 m) i = some t → dstOf ops i = some t ∧ i < m := by
    intro i t h
    unfold dstOf at *
    by_cases hi : i < m
    · rw [ext_get _ _ _ hi] at h
      exact ⟨h, hi⟩
    · rw [ext_get_no _ _ _ hi] at h; cases h
  have dne : ∀ i j, i ≠ j → ∀ t, dstOf (ops.extract 0 m) j = some t → dstOf (ops.extract 0 m) i ≠ some t := by
    intro i j hij t hj hi
    obtain ⟨hi1, hi2⟩ := dsub i t hi
    obtain ⟨hj1, hj2⟩ := dsub j t hj
    have := (hdst i (by omega) j (by omega)).resolve_left hij
    simp [hi1, hj1] at this
  have dlt : ∀ i t, dstOf (ops.extract 0 m) i = some t → t < a0.tmps.size := by
    intro i t hi
    obtain ⟨hi1, hi2⟩ := dsub i t hi
    have hj : ∃ j, j < ops.size ∧ i ≠ j := if h : i = 0 then ⟨1, by omega, by omega⟩ else ⟨0, by omega, h⟩
    obtain ⟨j, hj, hij⟩ := hj
    have := (hdst i (by omega) j hj).resolve_left hij
    simp [hi1] at this
    exact this.1
  have getl : ∀ (l : Array Bool) i, i < l.size → l.getD i true = true → l.getD i false = true := fun l i hi h => by rw [getD_two hi false true]; exact h
  intro fuel
  induction fuel with
  | zero =>
    intro l vals w hl hk hst hs hf hdown
    have hall : ∀ i, i < m → l.getD i true = true := by
      intro i hi
      rcases Bool.eq_false_or_eq_true (l.getD i true) with h | h
      · exact h
      · exfalso
        have : 0 < l.toList.countP (fun b => !b) := List.countP_pos_iff.2 ⟨false, by
          have hlt : i < l.size := by omega
          have : l[i] = false := by simpa [hlt] using h
          rw [← this]; simp, rfl⟩
        omega
    refine ⟨?_, ?_⟩
    · refine List.eq_nil_iff_forall_not_mem.2 fun i hi => ?_
      obtain ⟨h0, o, ho, _⟩ := mem_ready.1 hi
      have hlt : i < m := by have := (Array.getElem?_eq_some_iff.1 ho).1; simp at this; omega
      rw [hall i hlt] at h0; cases h0
    · have e1 : putSome (ops.extract 0 m) vals (fun i => l.getD i true) (List.range m) a0 = putSome (ops.extract 0 m) vals (fun _ => true) (List.range m) a0 := putSome_congr _ _ (fun i hi => ⟨hall i (List.mem_range.1 hi), fun _ => rfl⟩)
      rw [e1]
      refine hend vals w hk ?_ (fun i s h => hs i s (by
        by_cases hi : i < m
        · exact hall i hi
        · simp [show ¬ i < l.size by omega]) h)
      have : calls.countP (fun i => l.getD i true) = calls.length := List.countP_eq_length.2 (fun i hi => hall i (by simpa using hcm i hi))
      rw [this] at hst; exact hst
  | succ fuel ih =>
    intro l vals w hl hk hst hs hf hdown
    have dn := listed_of_none (ops := ops.extract 0 m) (m := m)
    refine ⟨fun h0 => ?_, fun i hi => ?_⟩
    · have hall : ∀ i, i < m → l.getD i true = true := by
        intro i
        induction i using Nat.strongRecOn with
        | _ i ihi =>
          intro hi
          rcases Bool.eq_false_or_eq_true (l.getD i true) with h | h
          · exact h
          · exfalso
            obtain ⟨o, ho, hd⟩ := hdown i hi
            have : i ∈ Region.ready .any (ops.extract 0 m) l := mem_ready.2 ⟨h, o, ho, fun e he hb => getl l _ (by have := hd e he hb; omega) (ihi e.on (hd e he hb) (by have := hd e he hb; omega))⟩
            rw [h0] at this; cases this
      have e1 : putSome (ops.extract 0 m) vals (fun i => l.getD i true) (List.range m) a0 = putSome (ops.extract 0 m) vals (fun _ => true) (List.range m) a0 := putSome_congr _ _ (fun i hi => ⟨hall i (List.mem_range.1 hi), fun _ => rfl⟩)
      rw [e1]
      refine hend vals w hk ?_ (fun i s h => hs i s (by
        by_cases hi : i < m
        · exact hall i hi
        · simp [show ¬ i < l.size by omega]) h)
      have : calls.countP (fun i => l.getD i true) = calls.length := List.countP_eq_length.2 (fun i hi => hall i (by simpa using hcm i hi))
      rw [this] at hst; exact hst
    · obtain ⟨hun, o, ho, hall⟩ := mem_ready.1 hi
      have him : i < m := by have := (Array.getElem?_eq_some_iff.1 ho).1; simp at this; omega
      have hilt : i < l.size := by omega
      obtain ⟨s, hsi⟩ : ∃ s, specs[i]? = some s := ⟨specs[i]'(by omega), by simp⟩
      have hguard : o.guard = none := by
        have hx := hgd i him
        have : ops[i]? = some o := by rw [ext_get _ _ _ him] at ho; exact ho
        simpa [this] using hx
      have hdo : dstOf (ops.extract 0 m) i = o.dst := by simp [dstOf, ho]
      unfold wpOp
      simp only [ho]
      rw [if_pos (by simp [Region.wanted, hguard])]
      refine Or.inl ?_
      have hcnt := countP_set calls hnd (fun j => l.getD j true) i hun
      refine hstep i him o s _ w (calls.countP fun j => l.getD j true) ho hsi hk hst ?_ ?_ ?_ _ ?_
      · rw [← hcnt]; exact List.countP_le_length
      · intro t ht
        exact putSome_eval_other _ _ (fun j _ => ht j)
      · intro e he hb t s' ht hs'
        have hon := hall e he hb
        have hlt : e.on < m := (dsub e.on t ht).2
        have hon' : l.getD e.on true = true := by rw [getD_two (by omega) true false]; exact hon
        rw [putSome_eval (i := e.on) _ _ List.nodup_range (List.mem_range.2 hlt) hon' ht (dlt _ _ ht) (fun j _ hj => fun h2 => dne e.on j (Ne.symm hj) t h2 ht)]
        exact hs e.on s' hon' hs'
      · intro v w' hv hkw hst'
        have e2 := putSome_set (ops := ops.extract 0 m) (vals := vals) (listed := fun j => l.getD j true) (i := i) v (List.range m) a0 List.nodup_range (List.mem_range.2 him) hun (fun j _ hj t ht => dne i j (Ne.symm hj) t ht)
        have e3 : (fun j => if j = i then true else l.getD j true) = fun j => (l.setIfInBounds i true).getD j true := by
          funext j
          by_cases hji : j = i
          · subst hji; simp [hilt]
          · simp only [hji, if_false]; rw [getD_set_ne true (Ne.symm hji)]
        rw [← hdo, ← e2, e3]
        refine ih _ _ w' (by simpa using hl) (hk.trans hkw) ?_ ?_ ?_ hdown
        · rw [← e3, hcnt]; exact hst'
        · intro j s' hj hs'
          by_cases hji : j = i
          · subst hji
            rw [hsi] at hs'; cases hs'
            simp only [if_true]; exact hv
          · simp only [hji, if_false]
            rw [getD_set_ne true (Ne.symm hji)] at hj
            exact (hs j s' hj hs').keeps hkw
        · have : (l.setIfInBounds i true).toList.countP (fun b => !b) + 1 = l.toList.countP (fun b => !b) := by
            have hli : l[i] = false := by simpa [hilt] using hun
            have hpos : 0 < l.toList.countP (fun b => !b) := List.countP_pos_iff.2 ⟨false, by rw [← hli]; simp, rfl⟩
            have := List.countP_set (p := fun b : Bool => !b) (l := l.toList) (i := i) (a := true) (by simpa using hilt)
            have e4 : l.toList[i]'(by simpa using hilt) = false := by simpa using hli
            rw [Array.toList_setIfInBounds, this, e4]
            rw [if_pos (by decide : (!false) = true), if_neg (by decide : ¬ (!true) = true)]
            omega
          omega

/-! ### The whole -/

/-- What is to be shown of an operation: it may look at what it waits for, and at what was there. -/
def GenOp (P : Program) (ops : Array Oper) (Q : Exit → Act → World → Prop) (a0 : Act) (S k : Nat) (w0 : World) (specs : List Spec) (calls : List Nat) (i : Nat) (o : Oper) (s : Spec) : Prop :=
  ∀ (a : Act) (w : World) (c : Nat), Keeps S w0 w → StreamOk w S (k + c) → c + (if calls.contains i then 1 else 0) ≤ calls.length →
    (∀ t, ((ops.extract 0 specs.length).all fun o => o.dst != some t) = true → a.eval (.tmp t) = a0.eval (.tmp t)) →
    (∀ (j : Nat) (t : Tmp) (s' : Spec), (o.after.any fun e => Region.binds .any e && e.on == j) = true → dstOf ops j = some t → specs[j]? = some s' → s'.holds S w (a.eval (.tmp t))) →
    ∀ K : Act → World → Prop, (∀ v w', s.holds S w' v → Keeps S w w' → StreamOk w' S (k + (c + if calls.contains i then 1 else 0)) → K (a.put o.dst v) w') → Oper.wp P o a w K (tailQ P ops Q specs.length)

def GenOps (P : Program) (ops : Array Oper) (Q : Exit → Act → World → Prop) (a0 : Act) (S k : Nat) (w0 : World) (specs : List Spec) (calls : List Nat) : Nat → List Oper → List Spec → Prop
  | i, o :: os, s :: ss => GenOp P ops Q a0 S k w0 specs calls i o s ∧ GenOps P ops Q a0 S k w0 specs calls (i + 1) os ss
  | _, _, _ => True

/-- For all values that the specs allow, put into the frame. -/
def ForVals (S : Nat) (w : World) (K : Act → Prop) : List (Option Tmp) → List Spec → Act → Prop
  | d :: ds, s :: ss, a => ∀ v, s.holds S w v → ForVals S w K ds ss (a.put d v)
  | _, _, a => K a

def downChk (ops : Array Oper) (m : Nat) : Bool := (List.range m).all fun i => ((ops[i]?).map fun o => o.after.all fun e => !Region.binds .any e || decide (e.on < i)).getD false

theorem genOps_at {a0 : Act} {S k : Nat} {w0 : World} {specs : List Spec} {calls : List Nat} : ∀ (i : Nat) (os : List Oper) (ss : List Spec), GenOps P ops Q a0 S k w0 specs calls i os ss → ∀ (j : Nat) (o : Oper) (s : Spec), os[j]? = some o → ss[j]? = some s → GenOp P ops Q a0 S k w0 specs calls (i + j) o s
  | i, o :: os, s :: ss, h, 0, _, _, ho, hs => by simp at ho hs; subst ho; subst hs; exact h.1
  | i, o :: os, s :: ss, h, j + 1, o', s', ho, hs => by
    have := genOps_at (i + 1) os ss h.2 j o' s' (by simpa using ho) (by simpa using hs)
    rw [show i + (j + 1) = i + 1 + j by omega]; exact this
  | i, [], _, _, j, _, _, ho, _ => by simp at ho
  | i, _ :: _, [], _, j, _, _, _, hs => by simp at hs

theorem forVals_all {S : Nat} {w : World} {K : Act → Prop} {vals : Nat → Value} {ops : Array Oper} : ∀ (ss : List Spec) (i : Nat) (a : Act), ForVals S w K ((List.range' i ss.length).map (dstOf ops)) ss a → (∀ (j : Nat) (s : Spec), ss[j]? = some s → s.holds S w (vals (i + j))) → K (putSome ops vals (fun _ => true) (List.range' i ss.length) a)
  | [], i, a, h, _ => h
  | s :: ss, i, a, h, hs => by
    have h1 : ForVals S w K ((List.range' (i + 1) ss.length).map (dstOf ops)) ss (a.put (dstOf ops i) (vals i)) := h (vals i) (hs 0 s rfl)
    have := forVals_all ss (i + 1) _ h1 (fun j s' hj => by have := hs (j + 1) s' (by simpa using hj); rwa [show i + (j + 1) = i + 1 + j by omega] at this)
    exact this

/-- **A region that draws its order, in which a stream hands out numbers**: shown for all orders at once; what comes behind the first operations goes in the text's order. -/
theorem region_gen {L : List Oper} {id : Nat} {a0 : Act} {w : World} (S k m : Nat) (specs : List Spec) (calls : List Nat) (ds : List (Option Tmp)) (hm : P.follows .mixedOrders = true) (hc : genChk L.toArray a0.tmps.size m calls = true) (ht : tailChk L.toArray m = true) (hd : downChk L.toArray m = true) (hlen : specs.length = m)
    (hds : (List.range m).map (dstOf L.toArray) = ds) (h0 : StreamOk w S k)
    (hstep : GenOps P L.toArray Q a0 S k w.drew specs calls 0 (L.take m) specs)
    (hend : ∀ w', Keeps S w.drew w' → StreamOk w' S (k + calls.length) → ForVals S w' (fun a => wpList P L.toArray Q (L.drop m) a w') ds specs a0) : (Code.region id L.toArray true).wp P Q a0 w := by
  subst hlen
  have hc0 := hc
  simp only [genChk, Bool.and_eq_true, List.all_eq_true, List.mem_range, decide_eq_true_eq] at hc0
  obtain ⟨⟨⟨⟨⟨_, hgd⟩, hmn⟩, h1n⟩, hnd⟩, hcm⟩ := hc0
  have hmn' : specs.length ≤ L.length := by simpa using hmn
  have hdown : ∀ i, i < specs.length → ∃ o, (L.toArray.extract 0 specs.length)[i]? = some o ∧ ∀ e ∈ o.after, Region.binds .any e = true → e.on < i := by
    intro i hi
    have h := List.all_eq_true.1 hd i (List.mem_range.2 hi)
    rw [ext_get _ _ _ hi]
    cases ho : L.toArray[i]? with
    | none => rw [ho] at h; cases h
    | some o =>
      rw [ho] at h
      simp only [Option.map_some, Option.getD_some] at h
      refine ⟨o, rfl, fun e he hb => ?_⟩
      have h1 := Array.all_eq_true_iff_forall_mem.1 h e he
      simpa [hb] using h1
  have tailNone : ∀ (k' : Nat) (o : Oper), specs.length ≤ k' → L.toArray[k']? = some o → o.guard = none := by
    intro k' o hk' ho
    have hlt := (Array.getElem?_eq_some_iff.1 ho).1
    have h := List.all_eq_true.1 ht k' (List.mem_range.2 hlt)
    simp only [Bool.or_eq_true, decide_eq_true_eq, Bool.and_eq_true] at h
    have h2 := (h.resolve_left (by omega)).2
    rw [ho] at h2
    simpa using h2
  have toTail : ∀ (l : List Oper), (∀ o ∈ l, o.guard = none) → ∀ a w, wpList P L.toArray Q l a w → tailQ.wpTail P Q l a w := by
    intro l
    induction l with
    | nil => intro _ a w h; exact h
    | cons o l ih =>
      intro hg a w h
      unfold wpList at h
      rw [if_pos (by simp [Region.wanted, hg o List.mem_cons_self])] at h
      exact h.imp (Oper.wp_mono (fun a w h => ih (fun o ho => hg o (List.mem_cons_of_mem _ ho)) a w h)) (fun h => h)
  refine wp_region_any hm ?_
  refine tail_any specs.length ht (L.length - specs.length) specs.length (by simp; omega) (Nat.le_refl _) a0 _ ?_
  have dEq : ∀ j, j < specs.length → dstOf (L.toArray.extract 0 specs.length) j = dstOf L.toArray j := fun j hj => by unfold dstOf; rw [ext_get _ _ _ hj]
  have dLt : ∀ j t, dstOf (L.toArray.extract 0 specs.length) j = some t → j < specs.length := fun j t h => by
    rcases Nat.lt_or_ge j specs.length with h' | h'
    · exact h'
    · unfold dstOf at h; rw [ext_get_no _ _ _ (by omega)] at h; cases h
  have g := gen_any (P := P) (ops := L.toArray) (Q := tailQ P L.toArray Q specs.length) (m := specs.length) (a0 := a0) (S := S) (k := k) (w0 := w.drew) (specs := specs) (calls := calls) hc rfl ?_ ?_ specs.length (Array.replicate specs.length false) (fun _ => undef) w.drew (by simp) (Keeps.refl _ _) ?_ ?_ ?_ hdown
  · have e0 : putSome (L.toArray.extract 0 specs.length) (fun _ => undef) (fun i => (Array.replicate specs.length false).getD i true) (List.range specs.length) a0 = a0 := by
      have : ∀ (l : List Nat), (∀ i ∈ l, i < specs.length) → ∀ a, putSome (L.toArray.extract 0 specs.length) (fun _ => undef) (fun i => (Array.replicate specs.length false).getD i true) l a = a := by
        intro l
        induction l with
        | nil => intro _ a; rfl
        | cons j l ih =>
          intro hl a
          have hj := hl j List.mem_cons_self
          have ih' := ih (fun i hi => hl i (List.mem_cons_of_mem _ hi))
          simp only [putSome, List.foldl_cons] at ih' ⊢
          rw [show (Array.replicate specs.length false).getD j true = false by simp [hj]]
          exact ih' a
      exact this _ (fun i hi => List.mem_range.1 hi) a0
    rw [e0] at g
    exact g
  · intro i hi o s a w' c ho hs hk hst hcc hfr hdp K hK
    have hoL : L[i]? = some o := by rw [ext_get _ _ _ hi] at ho; simpa using ho
    have st := genOps_at 0 _ _ hstep i o s (by rw [List.getElem?_take_of_lt hi]; exact hoL) hs
    rw [Nat.zero_add] at st
    refine st a w' c hk hst hcc (fun t ht => hfr t (fun j hj => ?_)) (fun j t s' hj ht hs' => ?_) K hK
    · unfold dstOf at hj
      cases hoj : (L.toArray.extract 0 specs.length)[j]? with
      | none => rw [hoj] at hj; cases hj
      | some oj =>
        rw [hoj] at hj
        have := Array.all_eq_true_iff_forall_mem.1 ht oj (Array.mem_of_getElem? hoj)
        simp at this hj
        exact this hj
    · obtain ⟨e, he, hb⟩ := Array.any_eq_true'.1 hj
      simp only [Bool.and_eq_true, beq_iff_eq] at hb
      obtain ⟨hb, rfl⟩ := hb
      have hlt : e.on < specs.length := (List.getElem?_eq_some_iff.1 hs').1
      exact hdp e he hb t s' (by rw [dEq _ hlt]; exact ht) hs'
  · intro vals w' hk hst hs
    have h := hend w' hk hst
    subst hds
    have e1 : putSome (L.toArray.extract 0 specs.length) vals (fun _ => true) (List.range specs.length) a0 = putSome L.toArray vals (fun _ => true) (List.range specs.length) a0 := by
      have : ∀ (l : List Nat), (∀ i ∈ l, i < specs.length) → ∀ a, putSome (L.toArray.extract 0 specs.length) vals (fun _ => true) l a = putSome L.toArray vals (fun _ => true) l a := by
        intro l
        induction l with
        | nil => intro _ a; rfl
        | cons j l ih =>
          intro hl a
          have ih' := ih (fun i hi => hl i (List.mem_cons_of_mem _ hi))
          simp only [putSome, List.foldl_cons] at ih' ⊢
          rw [dEq j (hl j List.mem_cons_self)]
          exact ih' _
      exact this _ (fun i hi => List.mem_range.1 hi) a0
    rw [e1]
    have h2 := forVals_all (S := S) (w := w') (vals := vals) (ops := L.toArray) (K := fun a => wpList P L.toArray Q (L.drop specs.length) a w') specs 0 a0 (by rw [← List.range_eq_range']; exact h) (fun j s hj => by rw [Nat.zero_add]; exact hs j s hj)
    rw [← List.range_eq_range'] at h2
    refine toTail _ (fun o ho => ?_) _ _ h2
    obtain ⟨j, hj⟩ := List.getElem?_of_mem ho
    rw [List.getElem?_drop] at hj
    exact tailNone _ o (Nat.le_add_right _ _) (by simpa using hj)
  · have : calls.countP (fun i => (Array.replicate specs.length false).getD i true) = 0 := List.countP_eq_zero.2 (fun i hi => by
      have := hcm i hi
      simp [this])
    rw [this]
    exact h0
  · intro i s h hs
    have hlt := (List.getElem?_eq_some_iff.1 hs).1
    simp [hlt] at h
  · exact Nat.le_trans List.countP_le_length (by simp)

theorem own_slice {w : World} {base : Nat} {e : TypeId} {size : Nat} {v : Value} {n : Nat} {xs : List Value} (h : w.ownsRow base e size v n xs) : ∃ a c, v = .slice a n c := by
  rcases h.2 with ⟨rfl, rfl⟩ | ⟨g, cap, cur, rfl, _⟩
  · exact ⟨none, 0, rfl⟩
  · exact ⟨_, _, rfl⟩
theorem addr_add0 (b j : Nat) : (⟨b, 0, none⟩ : Addr).add j = ⟨b, j, none⟩ := by unfold Addr.add; split <;> simp_all

/-! ### One operation -/
/-- A new block with such cells. -/
theorem gen_alloc {o : Oper} {a : Act} {w : World} {K : Act → World → Prop} {S k n : Nat} {p : List Value → Prop} (cs : Array Value) (ty : TypeId) (h : (execOp a.eval o).run P w = .ok (.value (.slice (some ⟨w.heap.size, 0, none⟩) n n)) (w.alloc (.cells cs ty))) (hp : p cs.toList) (hst : StreamOk w S k)
    (hK : ∀ v w', (Spec.arr n p).holds S w' v → Keeps S w w' → StreamOk w' S k → K (a.put o.dst v) w') : Oper.wp P o a w K Q := by
  unfold Oper.wp; rw [h]
  refine hK _ _ ⟨w.heap.size, cs.toList, rfl, hp, by simp, fun j u hj => ?_⟩ ((Keeps.refl S w).alloc _) (hst.below (ext_alloc (Below.refl _ _)))
  · simpa using hj
/-- A call of a Go function, whose arguments are known. -/
theorem gen_call {o : Oper} {a : Act} {w : World} {K : Act → World → Prop} {R : Ending → World → Prop} (f : Nat) (vs : Array Value) (h : (execOp a.eval o).run P w = .ok (.enter f vs) w) (hc : Calls P f vs w R) (hR : ∀ e w', R e w' → ∃ v, e = .returned v ∧ K (a.put o.dst v) w') : Oper.wp P o a w K Q := by
  unfold Oper.wp; rw [h]
  refine Calls.mono hc fun e w' he => ?_
  obtain ⟨v, rfl, hk⟩ := hR e w' he
  exact hk
theorem gen_pure {o : Oper} {a : Act} {w : World} {K : Act → World → Prop} {v : Value} (h : (execOp a.eval o).run P w = .ok (.value v) w) (hK : K (a.put o.dst v) w) : Oper.wp P o a w K Q := by
  unfold Oper.wp; rw [h]; exact hK
end
section
variable {P : Program} {ops : Array Oper} {Q : Exit → Act → World → Prop}

/-- What is to be shown of an operation: it may look at what it waits for, and at what was there. A call hands out at most W numbers. -/
def LateOp (P : Program) (ops : Array Oper) (Q : Exit → Act → World → Prop) (a0 : Act) (S k W : Nat) (w0 : World) (specs : List Spec) (calls : List Nat) (i : Nat) (o : Oper) (s : Spec) : Prop :=
  ∀ (a : Act) (w : World) (c : Nat), Keeps S w0 w → StreamOk w S (k + W * c) → c + (if calls.contains i then 1 else 0) ≤ calls.length →
    (∀ t, ((ops.extract 0 specs.length).all fun o => o.dst != some t) = true → a.eval (.tmp t) = a0.eval (.tmp t)) →
    (∀ (j : Nat) (t : Tmp) (s' : Spec), (o.after.any fun e => Region.binds .any e && e.on == j) = true → dstOf ops j = some t → specs[j]? = some s' → s'.holds S w (a.eval (.tmp t))) →
    ∀ K : Act → World → Prop, (∀ v w', s.holds S w' v → Keeps S w w' → StreamOk w' S (k + W * (c + if calls.contains i then 1 else 0)) → K (a.put o.dst v) w') → Oper.wp P o a w K Q
def LateOps (P : Program) (ops : Array Oper) (Q : Exit → Act → World → Prop) (a0 : Act) (S k W : Nat) (w0 : World) (specs : List Spec) (calls : List Nat) : Nat → List Oper → List Spec → Prop
  | i, o :: os, s :: ss => LateOp P ops Q a0 S k W w0 specs calls i o s ∧ LateOps P ops Q a0 S k W w0 specs calls (i + 1) os ss
  | _, _, _ => True
theorem lateOps_at {a0 : Act} {S k W : Nat} {w0 : World} {specs : List Spec} {calls : List Nat} : ∀ (i : Nat) (os : List Oper) (ss : List Spec), LateOps P ops Q a0 S k W w0 specs calls i os ss → ∀ (j : Nat) (o : Oper) (s : Spec), os[j]? = some o → ss[j]? = some s → LateOp P ops Q a0 S k W w0 specs calls (i + j) o s
  | i, o :: os, s :: ss, h, 0, _, _, ho, hs => by simp at ho hs; subst ho; subst hs; exact h.1
  | i, o :: os, s :: ss, h, j + 1, o', s', ho, hs => by
    have := lateOps_at (i + 1) os ss h.2 j o' s' (by simpa using ho) (by simpa using hs)
    rw [show i + (j + 1) = i + 1 + j by omega]; exact this
  | i, [], _, _, j, _, _, ho, _ => by simp at ho
  | i, _ :: _, [], _, j, _, _, _, hs => by simp at hs

/-- Operation m waits, through others, for all ahead of it but number d: each of those is waited for by one behind it, up to m, that is not d. -/
def lateChk (ops : Array Oper) (m d : Nat) : Bool :=
  ((List.range m).all fun i => i == d || (List.range (m + 1)).any fun k => decide (i < k) && k != d && ((ops[k]?).map fun o => o.after.any fun e => Region.binds .any e && e.on == i).getD false) && decide (d < m)

theorem late_listed {m d : Nat} (hc : lateChk ops m d = true) {l : Array Bool} (hl : l.size = m + 1) (hcl : ClosedL ops l) {om : Oper} (hom : ops[m]? = some om) (hall : ∀ e ∈ om.after, Region.binds .any e = true → l.getD e.on false = true) : ∀ i, i < m → i ≠ d → l.getD i true = true := by
  simp only [lateChk, Bool.and_eq_true, List.all_eq_true, List.any_eq_true, List.mem_range, decide_eq_true_eq, Bool.or_eq_true, beq_iff_eq, bne_iff_ne] at hc
  have main : ∀ n i, i < m → i ≠ d → m - i ≤ n → l.getD i false = true := by
    intro n
    induction n with
    | zero => intro i hi _ h; omega
    | succ n ih =>
      intro i hi hne h
      obtain ⟨k, hk, ⟨hik, hkd⟩, hk2⟩ := (hc.1 i hi).resolve_left hne
      cases ho : ops[k]? with
      | none => simp [ho] at hk2
      | some o =>
        simp only [ho, Option.map_some, Option.getD_some] at hk2
        obtain ⟨e, he, hb⟩ := Array.any_eq_true'.1 hk2
        simp only [Bool.and_eq_true, beq_iff_eq] at hb
        rcases Nat.lt_or_ge k m with hkm | hkm
        · rw [← hb.2]; exact hcl k o ho (ih k hkm hkd (by omega)) e he hb.1
        · obtain rfl : k = m := by omega
          rw [hom] at ho; cases ho
          rw [← hb.2]; exact hall e he hb.1
  intro i hi hne
  rw [getD_two (by omega) true false]
  exact main (m - i) i hi hne (Nat.le_refl _)

/-- Operation m waits, through others, for all ahead of it. -/
def lateAll (ops : Array Oper) (m : Nat) : Bool :=
  (List.range m).all fun i => (List.range (m + 1)).any fun k => decide (i < k) && ((ops[k]?).map fun o => o.after.any fun e => Region.binds .any e && e.on == i).getD false
theorem allW_listed {m : Nat} (hc : lateAll ops m = true) {l : Array Bool} (hl : l.size = m + 1) (hcl : ClosedL ops l) {om : Oper} (hom : ops[m]? = some om) (hall : ∀ e ∈ om.after, Region.binds .any e = true → l.getD e.on false = true) : ∀ i, i < m → l.getD i true = true := by
  simp only [lateAll, Bool.and_eq_true, List.all_eq_true, List.any_eq_true, List.mem_range, decide_eq_true_eq] at hc
  have main : ∀ n i, i < m → m - i ≤ n → l.getD i false = true := by
    intro n
    induction n with
    | zero => intro i hi h; omega
    | succ n ih =>
      intro i hi h
      obtain ⟨k, hk, hik, hk2⟩ := hc i hi
      cases ho : ops[k]? with
      | none => simp [ho] at hk2
      | some o =>
        simp only [ho, Option.map_some, Option.getD_some] at hk2
        obtain ⟨e, he, hb⟩ := Array.any_eq_true'.1 hk2
        simp only [Bool.and_eq_true, beq_iff_eq] at hb
        rcases Nat.lt_or_ge k m with hkm | hkm
        · rw [← hb.2]; exact hcl k o ho (ih k hkm (by omega)) e he hb.1
        · obtain rfl : k = m := by omega
          rw [hom] at ho; cases ho
          rw [← hb.2]; exact hall e he hb.1
  intro i hi
  rw [getD_two (by omega) true false]
  exact main (m - i) i hi (Nat.le_refl _)

theorem gen_late {m d W : Nat} {a0 : Act} {S k : Nat} {w0 : World} {specs : List Spec} {calls : List Nat} {st od : Oper} (hsz : ops.size = m + 1) (hc : genChk ops a0.tmps.size m calls = true) (hlen : specs.length = m) (hst : ops[m]? = some st) (hsg : st.guard = none) (hod : ops[d]? = some od) (hlate : lateChk ops m d = true) (hdc : d ∉ calls)
    (hdown : ∀ i, i < m + 1 → ∃ o, ops[i]? = some o ∧ ∀ e ∈ o.after, Region.binds .any e = true → e.on < i)
    (hstep : ∀ i o s, i < m → ops[i]? = some o → specs[i]? = some s → LateOp P ops Q a0 S k W w0 specs calls i o s)
    (hA : ∀ (vals : Nat → Value) (w : World), Keeps S w0 w → StreamOk w S (k + W * calls.length) → (∀ (i : Nat) (s : Spec), specs[i]? = some s → s.holds S w (vals i)) → lastQ P st Q .normal (putSome ops vals (fun _ => true) (List.range m) a0) w)
    (hB : lateAll ops m = false → ∀ (vals : Nat → Value) (w : World), Keeps S w0 w → StreamOk w S (k + W * calls.length) → (∀ (i : Nat) (s : Spec), i ≠ d → specs[i]? = some s → s.holds S w (vals i)) → lastQ P st (lastQ P od Q) .normal (putSome ops vals (fun i => i != d) (List.range m) a0) w) :
    ∀ (fuel : Nat) (l : Array Bool) (vals : Nat → Value) (w : World), l.size = m + 1 → l.getD m true = false → ClosedL ops l → Keeps S w0 w → StreamOk w S (k + W * calls.countP (fun i => l.getD i true)) → (∀ (i : Nat) (s : Spec), l.getD i true = true → specs[i]? = some s → s.holds S w (vals i)) → (l.toList.countP (fun b => !b) ≤ fuel) →
      wpAny P .any ops Q fuel l (putSome ops vals (fun i => l.getD i true) (List.range m) a0) w := by
  simp only [genChk, Bool.and_eq_true, List.all_eq_true, List.mem_range, decide_eq_true_eq, Bool.or_eq_true, beq_iff_eq] at hc
  obtain ⟨⟨⟨⟨⟨hdst, hgd⟩, hmn⟩, h1n⟩, hnd⟩, hcm⟩ := hc
  have hdm : d < m := by
    simp only [lateChk, Bool.and_eq_true, decide_eq_true_eq] at hlate
    exact hlate.2
  have dlt' : ∀ i t, dstOf ops i = some t → i < ops.size := by
    intro i t h
    rcases Nat.lt_or_ge i ops.size with h' | h'
    · exact h'
    · unfold dstOf at h; rw [Array.getElem?_eq_none h'] at h; cases h
  have dne : ∀ i j, i ≠ j → ∀ t, dstOf ops j = some t → dstOf ops i ≠ some t := by
    intro i j hij t hj hi
    have := (hdst i (dlt' i t hi) j (dlt' j t hj)).resolve_left hij
    simp [hi, hj] at this
  have dlt : ∀ i t, dstOf ops i = some t → t < a0.tmps.size := by
    intro i t hi
    have hj : ∃ j, j < ops.size ∧ i ≠ j := if h : i = 0 then ⟨1, by omega, by omega⟩ else ⟨0, by omega, h⟩
    obtain ⟨j, hj, hij⟩ := hj
    have := (hdst i (dlt' i t hi) j hj).resolve_left hij
    simp [hi] at this
    exact this.1
  have cntAll : ∀ l : Array Bool, (∀ i, i < m → i ≠ d → l.getD i true = true) → calls.countP (fun i => l.getD i true) = calls.length := fun l h => List.countP_eq_length.2 (fun i hi => h i (by simpa using hcm i hi) (fun e => hdc (e ▸ hi)))
  intro fuel
  induction fuel with
  | zero =>
    intro l vals w hl hlm hcl hk hstm hs hf
    exfalso
    have : 0 < l.toList.countP (fun b => !b) := List.countP_pos_iff.2 ⟨false, by
      have hlt : m < l.size := by omega
      have : l[m] = false := by simpa [hlt] using hlm
      rw [← this]; simp, rfl⟩
    omega
  | succ fuel ih =>
    intro l vals w hl hlm hcl hk hstm hs hf
    have cntSet : ∀ i, i < l.size → l.getD i true = false → (l.setIfInBounds i true).toList.countP (fun b => !b) + 1 = l.toList.countP (fun b => !b) := by
      intro i hilt hun
      have hli : l[i] = false := by simpa [hilt] using hun
      have hpos : 0 < l.toList.countP (fun b => !b) := List.countP_pos_iff.2 ⟨false, by rw [← hli]; simp, rfl⟩
      have := List.countP_set (p := fun b : Bool => !b) (l := l.toList) (i := i) (a := true) (by simpa using hilt)
      have e4 : l.toList[i]'(by simpa using hilt) = false := by simpa using hli
      rw [Array.toList_setIfInBounds, this, e4]
      rw [if_pos (by decide : (!false) = true), if_neg (by decide : ¬ (!true) = true)]
      omega
    refine ⟨fun h0 => ?_, fun i hi => ?_⟩
    · exfalso
      have hall : ∀ i, i < m + 1 → l.getD i true = true := by
        intro i
        induction i using Nat.strongRecOn with
        | _ i ihi =>
          intro hi
          rcases Bool.eq_false_or_eq_true (l.getD i true) with h | h
          · exact h
          · exfalso
            obtain ⟨o, ho, hd⟩ := hdown i hi
            have : i ∈ Region.ready .any ops l := mem_ready.2 ⟨h, o, ho, fun e he hb => by rw [getD_two (by have := hd e he hb; omega) false true]; exact ihi e.on (hd e he hb) (by have := hd e he hb; omega)⟩
            rw [h0] at this; cases this
      rw [hall m (by omega)] at hlm; cases hlm
    · obtain ⟨hun, o, ho, hall⟩ := mem_ready.1 hi
      have hile : i ≤ m := by have := (Array.getElem?_eq_some_iff.1 ho).1; omega
      by_cases him : i = m
      · subst him
        rw [hst] at ho; cases ho
        have hothers := late_listed hlate hl hcl hst hall
        unfold wpOp
        simp only [hst]
        rw [if_pos (by simp [Region.wanted, hsg])]
        rw [cntAll l hothers] at hstm
        by_cases hdl : l.getD d true = true
        · have e1 : putSome ops vals (fun j => l.getD j true) (List.range i) a0 = putSome ops vals (fun _ => true) (List.range i) a0 := putSome_congr _ _ (fun j hj => ⟨by
            by_cases hjd : j = d
            · rw [hjd]; exact hdl
            · exact hothers j (List.mem_range.1 hj) hjd, fun _ => rfl⟩)
          rw [e1]
          refine (hA vals w hk hstm (fun j s h => hs j s ?_ h)).imp (Oper.wp_mono (fun a' w' h' => wpAny_done (ready_all hsz fun j hj => ?_) h' fuel)) id
          · by_cases hjd : j = d
            · rw [hjd]; exact hdl
            · exact hothers j (by have := (List.getElem?_eq_some_iff.1 h).1; omega) hjd
          · by_cases hji : j = i
            · subst hji; simp [hl]
            · rw [getD_set_ne true (Ne.symm hji)]
              by_cases hjd : j = d
              · rw [hjd]; exact hdl
              · exact hothers j (by omega) hjd
        · have hdf : l.getD d true = false := by simpa using hdl
          have hla : lateAll ops i = false := by
            rcases Bool.eq_false_or_eq_true (lateAll ops i) with h | h
            · exact absurd (allW_listed h hl hcl hst hall d hdm) (by rw [hdf]; decide)
            · exact h
          have e1 : putSome ops vals (fun j => l.getD j true) (List.range i) a0 = putSome ops vals (fun j => j != d) (List.range i) a0 := putSome_congr _ _ (fun j hj => ⟨by
            by_cases hjd : j = d
            · rw [hjd, hdf]; simp
            · rw [hothers j (List.mem_range.1 hj) hjd]; simp [hjd], fun _ => rfl⟩)
          rw [e1]
          have hf1 : 1 ≤ fuel := by
            have h1 := cntSet d (by omega) hdf
            have h2 : 0 < (l.setIfInBounds d true).toList.countP (fun b => !b) := List.countP_pos_iff.2 ⟨false, by
              have hlt : i < (l.setIfInBounds d true).size := by simp; omega
              have : (l.setIfInBounds d true)[i] = false := by
                have h3 : (l.setIfInBounds d true).getD i true = false := by rw [getD_set_ne true (by omega)]; exact hlm
                rw [Array.getD_eq_getD_getElem?, Array.getElem?_eq_getElem hlt] at h3
                exact h3
              rw [← this]; exact Array.getElem_mem_toList _, rfl⟩
            omega
          obtain ⟨fuel', rfl⟩ : ∃ f, fuel = f + 1 := ⟨fuel - 1, by omega⟩
          have hg : od.guard = none := by
            have hx := hgd d hdm
            simpa [hod] using hx
          have hset : ∀ j, j < i + 1 → j ≠ d → (l.setIfInBounds i true).getD j true = true := by
            intro j hj hjd
            by_cases hji : j = i
            · subst hji; simp [hl]
            · rw [getD_set_ne true (Ne.symm hji)]; exact hothers j (by omega) hjd
          rcases hB hla vals w hk hstm (fun j s hjd h => hs j s (hothers j (by have := (List.getElem?_eq_some_iff.1 h).1; omega) hjd) h) with hq | hq
          · refine Or.inl ?_
            have conv : Oper.wp P st (putSome ops vals (fun j => j != d) (List.range i) a0) w (fun a' w' => lastQ P od Q .normal a' w') Q := by
              unfold Oper.wp at *
              generalize (execOp (putSome ops vals (fun j => j != d) (List.range i) a0).eval st).run P w = r at *
              cases r with
              | ok n w' =>
                cases n <;> simp only [Oper.upon] at hq ⊢ <;>
                  first
                    | exact hq
                    | exact Calls.mono hq (fun e w'' he => by cases e <;> exact he)
                    | exact Rows.mono hq (fun _ _ he => he)
              | halt x w' => cases x <;> simp only [Oper.upon] at hq ⊢ <;> exact hq
            refine Oper.wp_mono (fun a' w' h' => ?_) conv
            refine ⟨fun h0 => ?_, fun j hj => ?_⟩
            · exfalso
              obtain ⟨o2, ho2, hd2⟩ := hdown d (by omega)
              have : d ∈ Region.ready .any ops (l.setIfInBounds i true) := mem_ready.2 ⟨by rw [getD_set_ne true (by omega)]; exact hdf, o2, ho2, fun e he hb => by
                have := hd2 e he hb
                rw [getD_two (by simp; omega) false true]
                exact hset _ (by omega) (by omega)⟩
              rw [h0] at this; cases this
            · obtain ⟨hun2, o2, ho2, _⟩ := mem_ready.1 hj
              have hjle : j < i + 1 := by have := (Array.getElem?_eq_some_iff.1 ho2).1; omega
              obtain rfl : j = d := by
                apply Classical.byContradiction
                intro hjd
                rw [hset j hjle hjd] at hun2; cases hun2
              unfold wpOp
              simp only [hod]
              rw [if_pos (by simp [Region.wanted, hg])]
              refine h'.imp (Oper.wp_mono (fun a'' w'' h'' => wpAny_done (ready_all hsz fun q hq => ?_) h'' fuel')) id
              by_cases hqd : q = j
              · subst hqd; simp [show q < l.size by omega]
              · rw [getD_set_ne true (Ne.symm hqd)]; exact hset q hq hqd
          · exact Or.inr ⟨hq.1, by
              obtain ⟨a1, w1, h2⟩ := hq.2
              exact ⟨a1, w1, lastQ_other h2 (by simp)⟩⟩
      · have him' : i < m := by omega
        have hilt : i < l.size := by omega
        obtain ⟨s, hsi⟩ : ∃ s, specs[i]? = some s := ⟨specs[i]'(by omega), by simp⟩
        have hguard : o.guard = none := by
          have hx := hgd i him'
          simpa [ho] using hx
        have hdo : dstOf ops i = o.dst := by simp [dstOf, ho]
        unfold wpOp
        simp only [ho]
        rw [if_pos (by simp [Region.wanted, hguard])]
        refine Or.inl ?_
        have hcnt := countP_set calls hnd (fun j => l.getD j true) i hun
        refine hstep i o s him' ho hsi _ w (calls.countP fun j => l.getD j true) hk hstm ?_ ?_ ?_ _ ?_
        · rw [← hcnt]; exact List.countP_le_length
        · intro t ht
          refine putSome_eval_other _ _ (fun j hj => ?_)
          intro hjt
          have hjm := List.mem_range.1 hj
          unfold dstOf at hjt
          cases hoj : ops[j]? with
          | none => rw [hoj] at hjt; cases hjt
          | some oj =>
            rw [hoj] at hjt
            have h9 : (ops.extract 0 specs.length)[j]? = some oj := by rw [ext_get _ _ _ (by omega)]; exact hoj
            have := Array.all_eq_true_iff_forall_mem.1 ht oj (Array.mem_of_getElem? h9)
            simp at this hjt
            exact this hjt
        · intro j t s' hj ht hs'
          obtain ⟨e, he, hb⟩ := Array.any_eq_true'.1 hj
          simp only [Bool.and_eq_true, beq_iff_eq] at hb
          obtain ⟨hb, rfl⟩ := hb
          have hlt : e.on < m := by have := (List.getElem?_eq_some_iff.1 hs').1; omega
          have hon' : l.getD e.on true = true := by rw [getD_two (by omega) true false]; exact hall e he hb
          rw [putSome_eval (i := e.on) _ _ List.nodup_range (List.mem_range.2 hlt) hon' ht (dlt _ _ ht) (fun j _ hj => fun h2 => dne e.on j (Ne.symm hj) t h2 ht)]
          exact hs e.on s' hon' hs'
        · intro v w' hv hkw hst'
          have e2 := putSome_set (ops := ops) (vals := vals) (listed := fun j => l.getD j true) (i := i) v (List.range m) a0 List.nodup_range (List.mem_range.2 him') hun (fun j _ hj t ht => dne i j (Ne.symm hj) t ht)
          have e3 : (fun j => if j = i then true else l.getD j true) = fun j => (l.setIfInBounds i true).getD j true := by
            funext j
            by_cases hji : j = i
            · subst hji; simp [hilt]
            · simp only [hji, if_false]; rw [getD_set_ne true (Ne.symm hji)]
          rw [← hdo, ← e2, e3]
          refine ih _ _ w' (by simpa using hl) (by rw [getD_set_ne true him]; exact hlm) (hcl.set hi) (hk.trans hkw) ?_ ?_ ?_
          · rw [← e3, hcnt]; exact hst'
          · intro j s' hj hs'
            by_cases hji : j = i
            · subst hji
              rw [hsi] at hs'; cases hs'
              simp only [if_true]; exact hv
            · simp only [hji, if_false]
              rw [getD_set_ne true (Ne.symm hji)] at hj
              exact (hs j s' hj hs').keeps hkw
          · have := cntSet i hilt hun
            omega

theorem tailQ_wp {k : Nat} {o : Oper} {a : Act} {w : World} {K : Act → World → Prop} (h : Oper.wp P o a w K Q) : Oper.wp P o a w K (tailQ P ops Q k) := by
  unfold Oper.wp at *
  generalize (execOp a.eval o).run P w = r at *
  cases r with
  | ok n w' =>
    cases n <;> simp only [Oper.upon] at h ⊢ <;>
      first
        | exact h
        | exact Calls.mono h (fun e w'' he => by cases e <;> exact he)
        | exact Rows.mono h (fun _ _ he => he)
  | halt x w' => cases x <;> simp only [Oper.upon] at h ⊢ <;> exact h

theorem toTail_of {L : List Oper} : ∀ (l : List Oper), (∀ o ∈ l, o.guard = none) → ∀ a w, wpList P L.toArray Q l a w → tailQ.wpTail P Q l a w := by
  intro l
  induction l with
  | nil => intro _ a w h; exact h
  | cons o l ih =>
    intro hg a w h
    unfold wpList at h
    rw [if_pos (by simp [Region.wanted, hg o List.mem_cons_self])] at h
    exact h.imp (Oper.wp_mono (fun a w h => ih (fun o ho => hg o (List.mem_cons_of_mem _ ho)) a w h)) (fun h => h)

theorem forVals_skip {S : Nat} {w : World} {K : Act → Prop} {vals : Nat → Value} {ops : Array Oper} {d : Nat} : ∀ (ss : List Spec) (i : Nat) (a : Act), ForVals S w K (((List.range' i ss.length).map (dstOf ops)).eraseIdx (d - i)) (ss.eraseIdx (d - i)) a → i ≤ d → d < i + ss.length → (∀ (j : Nat) (s : Spec), i + j ≠ d → ss[j]? = some s → s.holds S w (vals (i + j))) → K (putSome ops vals (fun j => j != d) (List.range' i ss.length) a)
  | [], i, a, h, _, h2, _ => by simp at h2; omega
  | s :: ss, i, a, h, h1, h2, hs => by
    by_cases hid : i = d
    · subst hid
      simp only [Nat.sub_self, List.length_cons, List.range'_succ, List.map_cons, List.eraseIdx_cons_zero] at h
      have := forVals_all (vals := vals) ss (i + 1) a h (fun j s' hj => by have := hs (j + 1) s' (by omega) (by simpa using hj); rwa [show i + (j + 1) = i + 1 + j by omega] at this)
      simp only [putSome, List.length_cons, List.range'_succ, List.foldl_cons, bne_self_eq_false, Bool.false_eq_true, if_false] at this ⊢
      have e : ∀ (l : List Nat) (a : Act), (∀ j ∈ l, j ≠ i) → List.foldl (fun a j => if (j != i) = true then a.put (dstOf ops j) (vals j) else a) a l = List.foldl (fun a j => a.put (dstOf ops j) (vals j)) a l := by
        intro l
        induction l with
        | nil => intro a _; rfl
        | cons x xs ih =>
          intro a hx
          have hxi := hx x (by simp)
          have hb : (x != i) = true := by simpa using hxi
          simp only [List.foldl_cons, hb, if_true]
          exact ih _ (fun j hj => hx j (by simp [hj]))
      rw [e _ _ (fun j hj => by have := List.mem_range'_1.1 hj; omega)]
      simpa using this
    · have hsub : d - i = (d - (i + 1)) + 1 := by omega
      rw [hsub] at h
      simp only [List.length_cons, List.range'_succ, List.map_cons, List.eraseIdx_cons_succ] at h
      have h1' : ForVals S w K (((List.range' (i + 1) ss.length).map (dstOf ops)).eraseIdx (d - (i + 1))) (ss.eraseIdx (d - (i + 1))) (a.put (dstOf ops i) (vals i)) := h (vals i) (hs 0 s (by omega) rfl)
      have := forVals_skip ss (i + 1) _ h1' (by omega) (by simp at h2; omega) (fun j s' hj hj2 => by have := hs (j + 1) s' (by omega) (by simpa using hj2); rwa [show i + (j + 1) = i + 1 + j by omega] at this)
      simp only [putSome, List.length_cons, List.range'_succ, List.foldl_cons, bne_iff_ne, ne_eq, hid, not_false_eq_true, if_true] at this ⊢
      exact this

/-- **A region that draws its order**: shown for all orders at once; operation m comes behind all of the first m but, it may be, number d. -/
theorem region_lateC {L : List Oper} {id : Nat} {a0 : Act} {w : World} (S k W m d : Nat) (specs : List Spec) (calls : List Nat) (ds : List (Option Tmp)) {st od : Oper} (hm : P.follows .mixedOrders = true) (hc : genChk L.toArray a0.tmps.size m calls = true) (hc2 : ((L.toArray.extract 0 (m + 1)).size == m + 1) = true) (ht : tailChk L.toArray (m + 1) = true) (hd : downChk L.toArray (m + 1) = true) (hlate : lateChk (L.toArray.extract 0 (m + 1)) m d = true) (hlen : specs.length = m)
    (hds : (List.range m).map (dstOf L.toArray) = ds) (hst : L[m]? = some st) (hod : L[d]? = some od) (hsg : (st.guard.isNone && od.guard.isNone && decide (d ∉ calls)) = true) (h0 : StreamOk w S k)
    (hstep : LateOps P L.toArray (tailQ P L.toArray Q (m + 1)) a0 S k W w.drew specs calls 0 (L.take m) specs)
    (hA : ∀ w', Keeps S w.drew w' → StreamOk w' S (k + W * calls.length) → ForVals S w' (fun a => wpList P L.toArray Q (st :: L.drop (m + 1)) a w') ds specs a0)
    (hB : lateAll (L.toArray.extract 0 (m + 1)) m = false → ∀ w', Keeps S w.drew w' → StreamOk w' S (k + W * calls.length) → ForVals S w' (fun a => wpList P L.toArray Q (st :: od :: L.drop (m + 1)) a w') (ds.eraseIdx d) (specs.eraseIdx d) a0) : (Code.region id L.toArray true).wp P Q a0 w := by
  subst hlen
  simp only [Bool.and_eq_true, Option.isNone_iff_eq_none, decide_eq_true_eq] at hsg
  obtain ⟨⟨hsg, hog⟩, hdc⟩ := hsg
  have hsz : (L.toArray.extract 0 (specs.length + 1)).size = specs.length + 1 := by simpa using hc2
  have hmL : specs.length + 1 ≤ L.length := by simp at hsz; omega
  have hdm : d < specs.length := by
    simp only [lateChk, Bool.and_eq_true, decide_eq_true_eq] at hlate
    exact hlate.2
  have tailNone : ∀ o ∈ L.drop (specs.length + 1), o.guard = none := by
    intro o ho
    obtain ⟨j, hj⟩ := List.getElem?_of_mem ho
    rw [List.getElem?_drop] at hj
    have hlt := (List.getElem?_eq_some_iff.1 hj).1
    have h := List.all_eq_true.1 ht (specs.length + 1 + j) (List.mem_range.2 (by simpa using hlt))
    simp only [Bool.or_eq_true, decide_eq_true_eq, Bool.and_eq_true] at h
    have h2 := (h.resolve_left (by omega)).2
    rw [show L.toArray[specs.length + 1 + j]? = some o by simpa using hj] at h2
    simpa using h2
  have hdown : ∀ i, i < specs.length + 1 → ∃ o, (L.toArray.extract 0 (specs.length + 1))[i]? = some o ∧ ∀ e ∈ o.after, Region.binds .any e = true → e.on < i := by
    intro i hi
    have h := List.all_eq_true.1 hd i (List.mem_range.2 hi)
    rw [ext_get _ _ _ hi]
    cases ho : L.toArray[i]? with
    | none => rw [ho] at h; cases h
    | some o =>
      rw [ho] at h
      simp only [Option.map_some, Option.getD_some] at h
      refine ⟨o, rfl, fun e he hb => ?_⟩
      have h1 := Array.all_eq_true_iff_forall_mem.1 h e he
      simpa [hb] using h1
  have dEq : ∀ j, j < specs.length → dstOf (L.toArray.extract 0 (specs.length + 1)) j = dstOf L.toArray j := fun j hj => by unfold dstOf; rw [ext_get _ _ _ (by omega)]
  have pEq : ∀ (vals : Nat → Value) (f : Nat → Bool) (l : List Nat), (∀ j ∈ l, j < specs.length) → ∀ a, putSome (L.toArray.extract 0 (specs.length + 1)) vals f l a = putSome L.toArray vals f l a := by
    intro vals f l
    induction l with
    | nil => intro _ a; rfl
    | cons j l ih =>
      intro hl a
      have ih' := ih (fun i hi => hl i (List.mem_cons_of_mem _ hi))
      simp only [putSome, List.foldl_cons] at ih' ⊢
      rw [dEq j (hl j List.mem_cons_self)]
      exact ih' _
  have hc' : genChk (L.toArray.extract 0 (specs.length + 1)) a0.tmps.size specs.length calls = true := by
    simp only [genChk, Bool.and_eq_true, List.all_eq_true, List.mem_range, decide_eq_true_eq, Bool.or_eq_true, beq_iff_eq] at hc ⊢
    obtain ⟨⟨⟨⟨⟨hdst, hgd⟩, hmn⟩, h1n⟩, hnd⟩, hcm⟩ := hc
    refine ⟨⟨⟨⟨⟨fun i hi j hj => ?_, fun i hi => ?_⟩, by omega⟩, by omega⟩, hnd⟩, hcm⟩
    · rw [hsz] at hi hj
      have := hdst i (by simp; omega) j (by simp; omega)
      have ei : dstOf (L.toArray.extract 0 (specs.length + 1)) i = dstOf L.toArray i := by unfold dstOf; rw [ext_get _ _ _ hi]
      have ej : dstOf (L.toArray.extract 0 (specs.length + 1)) j = dstOf L.toArray j := by unfold dstOf; rw [ext_get _ _ _ hj]
      rw [ei, ej]; exact this
    · rw [ext_get _ _ _ (by omega)]; exact hgd i hi
  refine wp_region_any hm ?_
  refine tail_any (specs.length + 1) ht (L.length - (specs.length + 1)) (specs.length + 1) (by simp; omega) (Nat.le_refl _) a0 _ ?_
  have g := gen_late (P := P) (ops := L.toArray.extract 0 (specs.length + 1)) (Q := tailQ P L.toArray Q (specs.length + 1)) (m := specs.length) (d := d) (W := W) (a0 := a0) (S := S) (k := k) (w0 := w.drew) (specs := specs) (calls := calls) (st := st) (od := od) hsz hc' rfl (by rw [ext_get _ _ _ (by omega)]; simpa using hst) hsg (by rw [ext_get _ _ _ (by omega)]; simpa using hod) hlate hdc hdown ?_ ?_ ?_ (specs.length + 1) (Array.replicate (specs.length + 1) false) (fun _ => undef) w.drew (by simp) (by simp) ?_ (Keeps.refl _ _) ?_ ?_ ?_
  · have e0 : ∀ (l : List Nat), (∀ i ∈ l, i < specs.length) → ∀ a, putSome (L.toArray.extract 0 (specs.length + 1)) (fun _ => undef) (fun i => (Array.replicate (specs.length + 1) false).getD i true) l a = a := by
      intro l
      induction l with
      | nil => intro _ a; rfl
      | cons j l ih =>
        intro hl a
        have hj := hl j List.mem_cons_self
        have ih' := ih (fun i hi => hl i (List.mem_cons_of_mem _ hi))
        simp only [putSome, List.foldl_cons] at ih' ⊢
        rw [show (Array.replicate (specs.length + 1) false).getD j true = false by simp [show j < specs.length + 1 by omega]]
        exact ih' a
    rw [e0 _ (fun i hi => List.mem_range.1 hi) a0] at g
    exact g
  · intro i o s hi ho hs a w' c hk hst2 hcc hfr hdp K hK
    have hoL : L[i]? = some o := by rw [ext_get _ _ _ (by omega)] at ho; simpa using ho
    have st2 := lateOps_at 0 _ _ hstep i o s (by rw [List.getElem?_take_of_lt hi]; exact hoL) hs
    rw [Nat.zero_add] at st2
    refine st2 a w' c hk hst2 hcc (fun t ht => hfr t ?_) (fun j t s' hj ht hs' => hdp j t s' hj (by rw [dEq j (List.getElem?_eq_some_iff.1 hs').1]; exact ht) hs') K hK
    rw [Array.extract_extract] 
    simpa [Nat.min_eq_left (show specs.length ≤ specs.length + 1 by omega)] using ht
  · intro vals w' hk hst2 hs
    rw [pEq vals _ _ (fun j hj => List.mem_range.1 hj)]
    have h := hA w' hk hst2
    subst hds
    have h2 := forVals_all (S := S) (w := w') (vals := vals) (ops := L.toArray) (K := fun a => wpList P L.toArray Q (st :: L.drop (specs.length + 1)) a w') specs 0 a0 (by rw [← List.range_eq_range']; exact h) (fun j s hj => by rw [Nat.zero_add]; exact hs j s hj)
    rw [← List.range_eq_range'] at h2
    have h3 := toTail_of (st :: L.drop (specs.length + 1)) (fun o ho => by
      rcases List.mem_cons.1 ho with rfl | ho
      · exact hsg
      · exact tailNone o ho) _ _ h2
    exact h3.imp (fun h => tailQ_wp h) (fun h => h)
  · intro hla vals w' hk hst2 hs
    rw [pEq vals _ _ (fun j hj => List.mem_range.1 hj)]
    have h := hB hla w' hk hst2
    subst hds
    have h2 := forVals_skip (S := S) (w := w') (vals := vals) (ops := L.toArray) (d := d) (K := fun a => wpList P L.toArray Q (st :: od :: L.drop (specs.length + 1)) a w') specs 0 a0 (by rw [← List.range_eq_range']; exact h) (Nat.zero_le _) (by omega) (fun j s hne hj => by rw [Nat.zero_add] at hne ⊢; exact hs j s hne hj)
    rw [← List.range_eq_range'] at h2
    have h3 := toTail_of (st :: od :: L.drop (specs.length + 1)) (fun o ho => by
      rcases List.mem_cons.1 ho with rfl | ho
      · exact hsg
      · rcases List.mem_cons.1 ho with rfl | ho
        · exact hog
        · exact tailNone o ho) _ _ h2
    refine h3.imp (fun h => ?_) (fun h => h)
    have h4 := Oper.wp_mono (K' := fun a' w' => lastQ P od (tailQ P L.toArray Q (specs.length + 1)) .normal a' w') (fun a w h => h.imp (fun h => tailQ_wp h) (fun h => h)) h
    unfold Oper.wp at *
    generalize (execOp (putSome L.toArray vals (fun i => i != d) (List.range specs.length) a0).eval st).run P w' = r at *
    cases r with
    | ok n w' =>
      cases n <;> simp only [Oper.upon] at h4 ⊢ <;>
        first
          | exact h4
          | exact Calls.mono h4 (fun e w'' he => by cases e <;> exact he)
          | exact Rows.mono h4 (fun _ _ he => he)
    | halt x w' => cases x <;> simp only [Oper.upon] at h4 ⊢ <;> exact h4
  · intro i o _ hl
    exfalso
    by_cases h' : i < specs.length + 1
    · simp [h'] at hl
    · simp [h'] at hl
  · have : calls.countP (fun i => (Array.replicate (specs.length + 1) false).getD i true) = 0 := List.countP_eq_zero.2 (fun i hi => by
      have h5 := hc
      simp only [genChk, Bool.and_eq_true, List.all_eq_true, decide_eq_true_eq] at h5
      have := h5.2 i hi
      simp [show i < specs.length + 1 by omega])
    rw [this, Nat.mul_zero]
    exact h0
  · intro i s h hs
    have hlt := (List.getElem?_eq_some_iff.1 hs).1
    simp [show i < specs.length + 1 by omega] at h
  · exact Nat.le_trans List.countP_le_length (by simp)
theorem region_late {L : List Oper} {id : Nat} {a0 : Act} {w : World} (S k W m d : Nat) (specs : List Spec) (calls : List Nat) (ds : List (Option Tmp)) {st od : Oper} (hm : P.follows .mixedOrders = true) (hc : genChk L.toArray a0.tmps.size m calls = true) (hc2 : ((L.toArray.extract 0 (m + 1)).size == m + 1) = true) (ht : tailChk L.toArray (m + 1) = true) (hd : downChk L.toArray (m + 1) = true) (hlate : lateChk (L.toArray.extract 0 (m + 1)) m d = true) (hlen : specs.length = m)
    (hds : (List.range m).map (dstOf L.toArray) = ds) (hst : L[m]? = some st) (hod : L[d]? = some od) (hsg : (st.guard.isNone && od.guard.isNone && decide (d ∉ calls)) = true) (h0 : StreamOk w S k)
    (hstep : LateOps P L.toArray (tailQ P L.toArray Q (m + 1)) a0 S k W w.drew specs calls 0 (L.take m) specs)
    (hA : ∀ w', Keeps S w.drew w' → StreamOk w' S (k + W * calls.length) → ForVals S w' (fun a => wpList P L.toArray Q (st :: L.drop (m + 1)) a w') ds specs a0)
    (hB : ∀ w', Keeps S w.drew w' → StreamOk w' S (k + W * calls.length) → ForVals S w' (fun a => wpList P L.toArray Q (st :: od :: L.drop (m + 1)) a w') (ds.eraseIdx d) (specs.eraseIdx d) a0) : (Code.region id L.toArray true).wp P Q a0 w :=
  region_lateC S k W m d specs calls ds hm hc hc2 ht hd hlate hlen hds hst hod hsg h0 hstep hA (fun _ => hB)
/-- The same where operation m waits, through others, for all ahead of it (d: any one that is no call): one end goal. -/
theorem region_all {L : List Oper} {id : Nat} {a0 : Act} {w : World} (S k W m d : Nat) (specs : List Spec) (calls : List Nat) (ds : List (Option Tmp)) {st od : Oper} (hm : P.follows .mixedOrders = true) (hc : genChk L.toArray a0.tmps.size m calls = true) (hc2 : ((L.toArray.extract 0 (m + 1)).size == m + 1) = true) (ht : tailChk L.toArray (m + 1) = true) (hd : downChk L.toArray (m + 1) = true) (hlate : (lateAll (L.toArray.extract 0 (m + 1)) m && lateChk (L.toArray.extract 0 (m + 1)) m d) = true) (hlen : specs.length = m)
    (hds : (List.range m).map (dstOf L.toArray) = ds) (hst : L[m]? = some st) (hod : L[d]? = some od) (hsg : (st.guard.isNone && od.guard.isNone && decide (d ∉ calls)) = true) (h0 : StreamOk w S k)
    (hstep : LateOps P L.toArray (tailQ P L.toArray Q (m + 1)) a0 S k W w.drew specs calls 0 (L.take m) specs)
    (hA : ∀ w', Keeps S w.drew w' → StreamOk w' S (k + W * calls.length) → ForVals S w' (fun a => wpList P L.toArray Q (st :: L.drop (m + 1)) a w') ds specs a0) : (Code.region id L.toArray true).wp P Q a0 w := by
  rw [Bool.and_eq_true] at hlate
  exact region_lateC S k W m d specs calls ds hm hc hc2 ht hd hlate.2 hlen hds hst hod hsg h0 hstep hA (fun h => by rw [hlate.1] at h; cases h)
theorem heap_alloc_new (w : World) (o : Obj) : (w.alloc o).heap[w.heap.size]? = some o := by
  show (w.heap.push o)[w.heap.size]? = some o
  simp
/-- A new block behind a pointer. -/
theorem gen_box {o : Oper} {a : Act} {w : World} {K : Act → World → Prop} {S k : Nat} {p : World → Value → Prop} (cs : Array Value) (ty : TypeId) (h : (execOp a.eval o).run P w = .ok (.value (.pointer (some ⟨w.heap.size, 0, none⟩))) (w.alloc (.cells cs ty))) (hp : ∀ w', Keeps S (w.alloc (.cells cs ty)) w' → p w' (.pointer (some ⟨w.heap.size, 0, none⟩))) (hst : StreamOk w S k)
    (hK : ∀ v w', (Spec.mem p).holds S w' v → Keeps S w w' → StreamOk w' S k → K (a.put o.dst v) w') : Oper.wp P o a w K Q := by
  unfold Oper.wp; rw [h]
  exact hK _ _ hp ((Keeps.refl S w).alloc _) (hst.below (ext_alloc (Below.refl _ _)))
/-- What was there before, asked on a list (quick to reckon). -/
theorem fr_list {ops : Array Oper} {n : Nat} {R : Tmp → Prop} (h : ∀ t, ((ops.extract 0 n).all fun o => o.dst != some t) = true → R t) (t : Tmp) (hl : ((ops.toList.take n).all fun o => o.dst != some t) = true) : R t := by
  refine h t ?_
  rw [← Array.all_toList, Array.toList_extract, List.extract_eq_take_drop]
  simpa using hl
end
end Go.Proofs.YtppinnjdaoaddaaGreatDoor.NoS

set_option linter.unusedVariables false
set_option linter.unusedSimpArgs false
namespace Go.Proofs.YtppinnjdaoaddaaGreatDoor
open Go.RowKit Go.Sort Go.Lib

theorem drew_size (w : World) : w.drew.heap.size = w.heap.size := rfl
theorem idxC_empty {l : List Carr} (hl : l.length ≤ 50) (h : carrsErr l = 0) : idxC l [] < 0 := by
  rw [idxC_neg]
  have z1 : ∀ j, j < l.length → carrErr l j = 0 := first_zero (by unfold carrsErr at h; rw [if_neg (by omega)] at h; exact h)
  unfold hasC
  rw [List.any_eq_false]
  intro x hx
  obtain ⟨j, hj, rfl⟩ := List.getElem_of_mem hx
  have := carr_key (z1 j hj)
  rw [List.getD_eq_getElem?_getD, List.getElem?_eq_getElem hj] at this
  simpa using this
theorem cost_zero {l : List Carr} {r : Rcd} (h : costE l r = 0) : carrsErr l = 0 ∧ isNumB r.to_ = true ∧ (0 ≤ r.talk ∧ r.talk ≤ 86400000) ∧ (r.carrier = [] ∨ 0 ≤ idxC l r.carrier) := by
  unfold costE at h
  split at h
  · rename_i h1; exact absurd h h1
  · rename_i h1
    split at h
    · cases h
    · rename_i h2
      split at h
      · cases h
      · rename_i h3
        split at h
        · cases h
        · rename_i h4
          refine ⟨Classical.not_not.1 h1, by simpa using h2, ?_, ?_⟩
          · have h5 : inB r.talk 0 86400000 = true := by
              cases h6 : inB r.talk 0 86400000 with
              | true => rfl
              | false => exact absurd (Or.inr h6) h3
            unfold inB at h5
            simpa using h5
          · by_cases h7 : r.carrier = []
            · exact Or.inl h7
            · exact Or.inr (by
                by_cases h8 : idxC l r.carrier < 0
                · exact absurd ⟨h7, h8⟩ h4
                · omega)
set_option maxRecDepth 100000 in
set_option maxHeartbeats 8000000 in
theorem costFor_any (w : World) (a : Option Addr) (n cap : Nat) (l : List Carr) (hl : CarrRow w a n l) (hcap : n ≤ cap) (r : Rcd) (h1 : r.to_.length ≤ 100) (h2 : r.carrier.length ≤ 100) (h0 : costE l r = 0) : Calls Tryz.prog 40 #[.slice a n cap, .agg (Rcd.cells r).toArray] w (PriceOfPost (costR l r) w) := by
  obtain ⟨z0, z1, z2, z3⟩ := cost_zero h0
  have hfew := hl.few
  have hlen := hl.len
  have HR := Lib.hid hl
  have HLEN := Lib.hid hlen
  have HC : Hid (costR l r = if r.carrier = [] then (0, false) else costV (l.getD (idxC l r.carrier).toNat noCarr).decks (r.to_.drop 1) r.at_ r.talk) := rfl
  have HFD := Lib.hid (fun W (h : Below w.heap.size w W) => carrAt_any W a n cap l (hl.below h) r.carrier)
  have HID : Hid (0 ≤ idxC l r.carrier → (idxC l r.carrier).toNat < l.length) := fun h => idxC_lt h
  have HGA : Hid (GoodAt l r.at_) := good_row hl z0
  have HNP : Hid (1 ≤ r.to_.length ∧ r.to_.length ≤ 16) := by obtain ⟨d, q, -, q2, q3⟩ := num_parts z1; exact ⟨by rw [q]; simp, by rw [q]; simp; omega⟩
  have HKC : Hid (idxC l r.carrier < 0 ↔ r.carrier = []) := ⟨fun h => z3.resolve_right (by omega), fun h => by rw [h]; exact idxC_empty (by omega) z0⟩
  clear hl z0 z1 z3 h0 hlen
  generalize costR l r = R at HC ⊢
  obtain ⟨ri, rf, rt, at_, rg, tk, hw, rcr⟩ := r
  simp only at h1 h2 HC HFD HID HGA HNP HKC z2
  show Calls Tryz.prog 40 #[.slice a n cap, .agg #[.string ⟨ri.toArray⟩, .string ⟨rf.toArray⟩, .string ⟨rt.toArray⟩, .int .i64 at_, .int .i64 rg, .int .i64 tk, .int .i64 hw, .string ⟨rcr.toArray⟩]] w _
  generalize idxC l rcr = K at HC HFD HID HKC
  go_enter Tryz.func40, Tryz.ntmps40
  go_upto_region 1 with (fail)
  have HX : Hid (Blk (w.alloc (.cells #[.string ⟨ri.toArray⟩, .string ⟨rf.toArray⟩, .string ⟨rt.toArray⟩, .int .i64 at_, .int .i64 rg, .int .i64 tk, .int .i64 hw, .string ⟨rcr.toArray⟩] 83)) w.heap.size [.string ⟨ri.toArray⟩, .string ⟨rf.toArray⟩, .string ⟨rt.toArray⟩, .int .i64 at_, .int .i64 rg, .int .i64 tk, .int .i64 hw, .string ⟨rcr.toArray⟩] 83) := Blk.new w [.string ⟨ri.toArray⟩, .string ⟨rf.toArray⟩, .string ⟨rt.toArray⟩, .int .i64 at_, .int .i64 rg, .int .i64 tk, .int .i64 hw, .string ⟨rcr.toArray⟩] 83
  have HB : Hid (Below w.heap.size w (w.alloc (.cells #[.string ⟨ri.toArray⟩, .string ⟨rf.toArray⟩, .string ⟨rt.toArray⟩, .int .i64 at_, .int .i64 rg, .int .i64 tk, .int .i64 hw, .string ⟨rcr.toArray⟩] 83))) := ext_alloc (Below.refl _ _)
  generalize (w.alloc (.cells #[.string ⟨ri.toArray⟩, .string ⟨rf.toArray⟩, .string ⟨rt.toArray⟩, .int .i64 at_, .int .i64 rg, .int .i64 tk, .int .i64 hw, .string ⟨rcr.toArray⟩] 83)) = w0 at HX HB ⊢
  have c7 := HX.out.cell 7 rfl
  as_aux_lemma =>
    go_wp2_with fail
    refine (HFD.out _ HB.out).mono ?_
    rintro e w3 ⟨rfl, hb⟩
    have HB3 := Lib.hid (ext_trans HB.out hb)
    have HX3 := Lib.hid (HX.out.below hb)
    clear hb HB HX HFD c7
    by_cases hK : K < 0
    · obtain rfl : R = (0, false) := by rw [HC.out, if_pos (HKC.out.1 hK)]
      clear HC HKC HID HX3 HGA HR HLEN
      as_aux_lemma =>
        go_wp2_with fail
        go_ret2
        exact ⟨rfl, HB3.out⟩
    have hne : rcr ≠ [] := fun h => hK (HKC.out.2 h)
    obtain ⟨kk, rfl⟩ := Int.eq_ofNat_of_zero_le (show 0 ≤ K by omega)
    have hkn : kk < n := by have q1 := HID.out (by omega); have q2 := HLEN.out; omega
    have hkb : ¬ ((kk : Int) < 0) := by omega
    have hkni : (kk : Int) < (n : Int) := by omega
    have HRC : Hid (R = costV (l.getD kk noCarr).decks (rt.drop 1) at_ tk) := by show R = _; rw [HC.out, if_neg hne]; rfl
    have HR3 := Lib.hid (HR.out.below HB3.out)
    have HGK : Hid (∀ d, deckV (l.getD kk noCarr).decks at_ = some d → DeckGood d.setup d.least d.step d.rates) := HGA.out kk (by rw [← HLEN.out]; exact hkn)
    have HCF : Hid (CarrFine w3 (l.getD kk noCarr)) := HR3.out.each kk (by rw [← HLEN.out]; exact hkn)
    obtain ⟨b, off, rfl, hbl, hc⟩ := HR3.out.at (by omega)
    obtain ⟨d0, d1, d2⟩ := hc kk hkn
    have c3 := HX3.out.cell 3 rfl
    clear hc HR3 HR HC HID hK HGA HLEN HKC hne
    generalize l.getD kk noCarr = cx at d0 d1 d2 HCF HRC HGK
    obtain ⟨ky, ln, da, dn, dc, dk⟩ := cx
    simp only at d0 d1 d2 HRC HGK
    have HDK : Hid (∀ W, Below w3.heap.size w3 W → Calls Tryz.prog 32 #[.agg #[.string ⟨ky.toArray⟩, .int .i64 ln, .slice da dn dc], .int .i64 at_] W (DeckAns (deckV dk at_) W)) := fun W hW => deckOf_any W ky ln da dn dc dk (HCF.out.below hW).row HCF.out.cap at_
    have HRF : Hid (∀ W, Below w3.heap.size w3 W → RateRow W ((deckV dk at_).getD noDeck).ra ((deckV dk at_).getD noDeck).rn ((deckV dk at_).getD noDeck).rates) := fun W hW => deckV_fineR (HCF.out.below hW).row at_
    have HC : Hid (costV dk (rt.drop 1) at_ tk = match deckV dk at_ with | none => (0, false) | some d => priceV d.setup d.least d.step d.rates (rt.drop 1) tk) := rfl
    rw [← HRC.out] at HC
    generalize deckV dk at_ = od at HDK HRF HC HGK
    clear HCF HRC
    as_aux_lemma =>
      go_upto_region 4 with (fail)
      go_cut [7, 8] (fun v7 v8 wx => ∃ D, v7 = .pointer (some ⟨D, 0, none⟩) ∧ v8 = .bool od.isSome ∧ Hid (Blk wx D [.int .i64 (od.getD noDeck).from_, .int .i64 (od.getD noDeck).setup, .int .i64 (od.getD noDeck).least, .int .i64 (od.getD noDeck).step, .slice (od.getD noDeck).ra (od.getD noDeck).rn (od.getD noDeck).rc] 63) ∧ Hid (Below w3.heap.size w3 wx))
      case first =>
        have hGl : w.heap.size < w3.heap.size := HX3.out.lt
        clear HRF HC HGK HB3 HX3
        refine NoS.region_late 0 0 1 11 9 [.val (fun v => (.slice (some ⟨b, off, none⟩) n cap) = v), .val (fun v => (.int .i64 kk) = v), .val (fun v => (.pointer (some ⟨b, off + kk * 3, none⟩)) = v), .val (fun v => (.agg #[.string ⟨ky.toArray⟩, .int .i64 ln, .slice da dn dc]) = v), .val (fun v => (.pointer (some ⟨w.heap.size, 3, none⟩)) = v), .val (fun v => (.int .i64 at_) = v), .val (fun v => (.tuple #[.agg #[.int .i64 (od.getD noDeck).from_, .int .i64 (od.getD noDeck).setup, .int .i64 (od.getD noDeck).least, .int .i64 (od.getD noDeck).step, .slice (od.getD noDeck).ra (od.getD noDeck).rn (od.getD noDeck).rc], .bool od.isSome]) = v), .val (fun v => (.tuple #[.agg #[.int .i64 (od.getD noDeck).from_, .int .i64 (od.getD noDeck).setup, .int .i64 (od.getD noDeck).least, .int .i64 (od.getD noDeck).step, .slice (od.getD noDeck).ra (od.getD noDeck).rn (od.getD noDeck).rc], .bool od.isSome]) = v), .val (fun v => (.agg #[.int .i64 (od.getD noDeck).from_, .int .i64 (od.getD noDeck).setup, .int .i64 (od.getD noDeck).least, .int .i64 (od.getD noDeck).step, .slice (od.getD noDeck).ra (od.getD noDeck).rn (od.getD noDeck).rc]) = v), .val (fun v => (.bool od.isSome) = v), .mem (fun W v => ∃ D, v = .pointer (some ⟨D, 0, none⟩) ∧ Blk W D [.int .i64 0, .int .i64 0, .int .i64 0, .int .i64 0, .slice none 0 0] 63 ∧ w3.heap.size ≤ D)] [6] [some 16, some 17, some 18, some 19, some 20, some 21, some 22, some 15, some 23, some 24, some 7] rfl (by kernel_rfl) (by kernel_rfl) (by kernel_rfl) (by kernel_rfl) (by kernel_rfl) rfl (by kernel_rfl) rfl rfl (by kernel_rfl) trivial ⟨?_, ?_, ?_, ?_, ?_, ?_, ?_, ?_, ?_, ?_, ?_, trivial⟩ ?_ ?_
        · intro a w' c hk hst hc hfr hdp K hK
          as_aux_lemma =>
            have E0 : a.eval (.tmp 0) = .slice (some ⟨b, off, none⟩) n cap := NoS.fr_list hfr 0 (by kernel_rfl)
            have d0_ := slot_of E0
            refine NoS.gen_pure (v := .slice (some ⟨b, off, none⟩) n cap) ?_ (hK _ _ rfl (NoS.Keeps.refl _ _) hst)
            clear hK hdp hfr
            go_simp
        · intro a w' c hk hst hc hfr hdp K hK
          as_aux_lemma =>
            have E6 : a.eval (.tmp 6) = .int .i64 kk := NoS.fr_list hfr 6 (by kernel_rfl)
            have d6_ := slot_of E6
            refine NoS.gen_pure (v := .int .i64 kk) ?_ (hK _ _ rfl (NoS.Keeps.refl _ _) hst)
            clear hK hdp hfr
            go_simp
        · intro a w' c hk hst hc hfr hdp K hK
          as_aux_lemma =>
            have E16 : a.eval (.tmp 16) = .slice (some ⟨b, off, none⟩) n cap := Eq.symm (hdp 0 16 _ (by kernel_rfl) (by kernel_rfl) rfl)
            have d16_ := slot_of E16
            have E17 : a.eval (.tmp 17) = .int .i64 kk := Eq.symm (hdp 1 17 _ (by kernel_rfl) (by kernel_rfl) rfl)
            have d17_ := slot_of E17
            refine NoS.gen_pure (v := .pointer (some ⟨b, off + kk * 3, none⟩)) ?_ (hK _ _ rfl (NoS.Keeps.refl _ _) hst)
            clear hK hdp hfr
            go_simp
        · intro a w' c hk hst hc hfr hdp K hK
          as_aux_lemma =>
            have E18 : a.eval (.tmp 18) = .pointer (some ⟨b, off + kk * 3, none⟩) := Eq.symm (hdp 2 18 _ (by kernel_rfl) (by kernel_rfl) rfl)
            have d18_ := slot_of E18
            have e0 : w'.cell? ⟨b, off + kk * 3, none⟩ = some (.string ⟨ky.toArray⟩) := (hk.cell (p := ⟨b, off + kk * 3, none⟩) hbl).trans d0
            have e1 : w'.cell? ⟨b, off + kk * 3 + 1, none⟩ = some (.int .i64 ln) := (hk.cell (p := ⟨b, off + kk * 3 + 1, none⟩) hbl).trans d1
            have e2 : w'.cell? ⟨b, off + kk * 3 + 2, none⟩ = some (.slice da dn dc) := (hk.cell (p := ⟨b, off + kk * 3 + 2, none⟩) hbl).trans d2
            refine NoS.gen_pure (v := .agg #[.string ⟨ky.toArray⟩, .int .i64 ln, .slice da dn dc]) ?_ (hK _ _ rfl (NoS.Keeps.refl _ _) hst)
            clear hK hdp hfr
            go_simp
        · intro a w' c hk hst hc hfr hdp K hK
          as_aux_lemma =>
            have E3 : a.eval (.tmp 3) = .pointer (some ⟨w.heap.size, 0, none⟩) := NoS.fr_list hfr 3 (by kernel_rfl)
            have d3_ := slot_of E3
            refine NoS.gen_pure (v := .pointer (some ⟨w.heap.size, 3, none⟩)) ?_ (hK _ _ rfl (NoS.Keeps.refl _ _) hst)
            clear hK hdp hfr
            go_simp
        · intro a w' c hk hst hc hfr hdp K hK
          as_aux_lemma =>
            have E20 : a.eval (.tmp 20) = .pointer (some ⟨w.heap.size, 3, none⟩) := Eq.symm (hdp 4 20 _ (by kernel_rfl) (by kernel_rfl) rfl)
            have d20_ := slot_of E20
            have e0 : w'.cell? ⟨w.heap.size, 3, none⟩ = some (.int .i64 at_) := (hk.cell (p := ⟨w.heap.size, 3, none⟩) hGl).trans c3
            refine NoS.gen_pure (v := .int .i64 at_) ?_ (hK _ _ rfl (NoS.Keeps.refl _ _) hst)
            clear hK hdp hfr
            go_simp
        · intro a w' c hk hst hc hfr hdp K hK
          as_aux_lemma =>
            have E19 : a.eval (.tmp 19) = .agg #[.string ⟨ky.toArray⟩, .int .i64 ln, .slice da dn dc] := Eq.symm (hdp 3 19 _ (by kernel_rfl) (by kernel_rfl) rfl)
            have d19_ := slot_of E19
            have E21 : a.eval (.tmp 21) = .int .i64 at_ := Eq.symm (hdp 5 21 _ (by kernel_rfl) (by kernel_rfl) rfl)
            have d21_ := slot_of E21
            refine NoS.gen_call 32 #[.agg #[.string ⟨ky.toArray⟩, .int .i64 ln, .slice da dn dc], .int .i64 at_] ?_ (HDK.out w' (ext_trans (by exact ext_drew (Below.refl _ _)) (NoS.Keeps.below hk))) ?_
            · clear hK hdp hfr; go_simp
            rintro e w'' ⟨rfl, hb9⟩
            exact ⟨_, rfl, hK _ _ rfl (NoS.Keeps.of_below hb9) trivial⟩
        · intro a w' c hk hst hc hfr hdp K hK
          as_aux_lemma =>
            have E22 : a.eval (.tmp 22) = .tuple #[.agg #[.int .i64 (od.getD noDeck).from_, .int .i64 (od.getD noDeck).setup, .int .i64 (od.getD noDeck).least, .int .i64 (od.getD noDeck).step, .slice (od.getD noDeck).ra (od.getD noDeck).rn (od.getD noDeck).rc], .bool od.isSome] := Eq.symm (hdp 6 22 _ (by kernel_rfl) (by kernel_rfl) rfl)
            have d22_ := slot_of E22
            refine NoS.gen_pure (v := .tuple #[.agg #[.int .i64 (od.getD noDeck).from_, .int .i64 (od.getD noDeck).setup, .int .i64 (od.getD noDeck).least, .int .i64 (od.getD noDeck).step, .slice (od.getD noDeck).ra (od.getD noDeck).rn (od.getD noDeck).rc], .bool od.isSome]) ?_ (hK _ _ rfl (NoS.Keeps.refl _ _) hst)
            clear hK hdp hfr
            go_simp
        · intro a w' c hk hst hc hfr hdp K hK
          as_aux_lemma =>
            have E15 : a.eval (.tmp 15) = .tuple #[.agg #[.int .i64 (od.getD noDeck).from_, .int .i64 (od.getD noDeck).setup, .int .i64 (od.getD noDeck).least, .int .i64 (od.getD noDeck).step, .slice (od.getD noDeck).ra (od.getD noDeck).rn (od.getD noDeck).rc], .bool od.isSome] := Eq.symm (hdp 7 15 _ (by kernel_rfl) (by kernel_rfl) rfl)
            have d15_ := slot_of E15
            refine NoS.gen_pure (v := .agg #[.int .i64 (od.getD noDeck).from_, .int .i64 (od.getD noDeck).setup, .int .i64 (od.getD noDeck).least, .int .i64 (od.getD noDeck).step, .slice (od.getD noDeck).ra (od.getD noDeck).rn (od.getD noDeck).rc]) ?_ (hK _ _ rfl (NoS.Keeps.refl _ _) hst)
            clear hK hdp hfr
            go_simp
        · intro a w' c hk hst hc hfr hdp K hK
          as_aux_lemma =>
            have E15 : a.eval (.tmp 15) = .tuple #[.agg #[.int .i64 (od.getD noDeck).from_, .int .i64 (od.getD noDeck).setup, .int .i64 (od.getD noDeck).least, .int .i64 (od.getD noDeck).step, .slice (od.getD noDeck).ra (od.getD noDeck).rn (od.getD noDeck).rc], .bool od.isSome] := Eq.symm (hdp 7 15 _ (by kernel_rfl) (by kernel_rfl) rfl)
            have d15_ := slot_of E15
            refine NoS.gen_pure (v := .bool od.isSome) ?_ (hK _ _ rfl (NoS.Keeps.refl _ _) hst)
            clear hK hdp hfr
            go_simp
        · intro a w' c hk hst hc hfr hdp K hK
          as_aux_lemma =>
            refine wp_val (v := .pointer (some ⟨w'.heap.size, 0, none⟩)) (w' := w'.alloc (.cells #[.int .i64 0, .int .i64 0, .int .i64 0, .int .i64 0, .slice none 0 0] 63)) ?_ (hK _ _ ?_ ?_ trivial)
            · clear hK hdp hfr; go_simp
            · intro w9 h9
              exact ⟨_, rfl, (Blk.new w' [.int .i64 0, .int .i64 0, .int .i64 0, .int .i64 0, .slice none 0 0] 63).below (NoS.Keeps.below h9), (by have h8 := NoS.Keeps.size hk; exact h8)⟩
            · exact NoS.Keeps.of_below (ext_alloc (Below.refl _ _))
        · intro w9 hk9 _
          as_aux_lemma =>
            rintro _ rfl _ rfl _ rfl _ rfl _ rfl _ rfl _ rfl _ rfl _ rfl _ rfl _ h10
            obtain ⟨D, rfl, hD, hDl⟩ := h10 w9 (NoS.Keeps.refl _ _)
            simp only [NoS.ForVals, Act.put, List.setIfInBounds_toArray, List.set_cons_zero, List.set_cons_succ, List.drop_succ_cons, List.drop_zero]
            have hb9 : Below w3.heap.size w3 w9 := ext_trans (by exact ext_drew (Below.refl _ _)) (NoS.Keeps.below hk9)
            have HTH : Hid (w9.there D 0 5) := hD.th 5 (by simp)
            have HD9 : Hid (Blk (w9.setCells D 0 [.int .i64 (od.getD noDeck).from_, .int .i64 (od.getD noDeck).setup, .int .i64 (od.getD noDeck).least, .int .i64 (od.getD noDeck).step, .slice (od.getD noDeck).ra (od.getD noDeck).rn (od.getD noDeck).rc]) D [.int .i64 (od.getD noDeck).from_, .int .i64 (od.getD noDeck).setup, .int .i64 (od.getD noDeck).least, .int .i64 (od.getD noDeck).step, .slice (od.getD noDeck).ra (od.getD noDeck).rn (od.getD noDeck).rc] 63) := ((((((hD.put 0 _).put 1 _).put 2 _).put 3 _).put 4 _))
            have HB9 : Hid (Below w3.heap.size w3 (w9.setCells D 0 [.int .i64 (od.getD noDeck).from_, .int .i64 (od.getD noDeck).setup, .int .i64 (od.getD noDeck).least, .int .i64 (od.getD noDeck).step, .slice (od.getD noDeck).ra (od.getD noDeck).rn (od.getD noDeck).rc])) := below5 hDl hb9 _
            clear hD hb9 hk9 h10
            go_wp2_with (refine wpList_store_mid rfl 63 (.tmp 7) (.tmp 23) rfl D 0 #[.int .i64 (od.getD noDeck).from_, .int .i64 (od.getD noDeck).setup, .int .i64 (od.getD noDeck).least, .int .i64 (od.getD noDeck).step, .slice (od.getD noDeck).ra (od.getD noDeck).rn (od.getD noDeck).rc] rfl rfl HTH.out Tryz.deckSz (by simp [Value.oneCell']) ?_; generalize World.setCells w9 D 0 _ = W9 at HD9 HB9 ⊢)
            go_meet
            exact ⟨D, rfl, rfl, HD9.out, HB9.out⟩
        · intro w9 hk9 _
          as_aux_lemma =>
            rintro _ rfl _ rfl _ rfl _ rfl _ rfl _ rfl _ rfl _ rfl _ rfl _ h10
            obtain ⟨D, rfl, hD, hDl⟩ := h10 w9 (NoS.Keeps.refl _ _)
            simp only [NoS.ForVals, Act.put, List.setIfInBounds_toArray, List.set_cons_zero, List.set_cons_succ, List.drop_succ_cons, List.drop_zero]
            have hb9 : Below w3.heap.size w3 w9 := ext_trans (by exact ext_drew (Below.refl _ _)) (NoS.Keeps.below hk9)
            have HTH : Hid (w9.there D 0 5) := hD.th 5 (by simp)
            have HD9 : Hid (Blk (w9.setCells D 0 [.int .i64 (od.getD noDeck).from_, .int .i64 (od.getD noDeck).setup, .int .i64 (od.getD noDeck).least, .int .i64 (od.getD noDeck).step, .slice (od.getD noDeck).ra (od.getD noDeck).rn (od.getD noDeck).rc]) D [.int .i64 (od.getD noDeck).from_, .int .i64 (od.getD noDeck).setup, .int .i64 (od.getD noDeck).least, .int .i64 (od.getD noDeck).step, .slice (od.getD noDeck).ra (od.getD noDeck).rn (od.getD noDeck).rc] 63) := ((((((hD.put 0 _).put 1 _).put 2 _).put 3 _).put 4 _))
            have HB9 : Hid (Below w3.heap.size w3 (w9.setCells D 0 [.int .i64 (od.getD noDeck).from_, .int .i64 (od.getD noDeck).setup, .int .i64 (od.getD noDeck).least, .int .i64 (od.getD noDeck).step, .slice (od.getD noDeck).ra (od.getD noDeck).rn (od.getD noDeck).rc])) := below5 hDl hb9 _
            clear hD hb9 hk9 h10
            go_wp2_with (refine wpList_store_mid rfl 63 (.tmp 7) (.tmp 23) rfl D 0 #[.int .i64 (od.getD noDeck).from_, .int .i64 (od.getD noDeck).setup, .int .i64 (od.getD noDeck).least, .int .i64 (od.getD noDeck).step, .slice (od.getD noDeck).ra (od.getD noDeck).rn (od.getD noDeck).rc] rfl rfl HTH.out Tryz.deckSz (by simp [Value.oneCell']) ?_; generalize World.setCells w9 D 0 _ = W9 at HD9 HB9 ⊢)
            go_meet
            exact ⟨D, rfl, rfl, HD9.out, HB9.out⟩
      case rest =>
        obtain ⟨D, rfl, rfl, HD5, HB5⟩ := hcut
        obtain ⟨w5, rfl⟩ : ∃ x : World, x = wc := ⟨_, rfl⟩
        have HBF := Lib.hid (ext_trans HB3.out HB5.out)
        have HX5 := Lib.hid (HX3.out.below HB5.out)
        have HR5 := Lib.hid (HRF.out _ HB5.out)
        clear HB3 HX3 HRF HDK HB5 c3 d0 d1 d2
        have c2 := HX5.out.cell 2 rfl
        have c5 := HX5.out.cell 5 rfl
        cases od with
        | none =>
          obtain rfl : R = (0, false) := HC.out
          clear HC HGK HR5 HX5 HD5
          as_aux_lemma =>
            go_wp2_with fail
            go_ret2
            exact ⟨rfl, HBF.out⟩
        | some d =>
          have hgd := HGK.out d rfl
          obtain ⟨df, ds, dl, dp, ra, rn, rc, rates⟩ := d
          obtain rfl : R = priceV ds dl dp rates (rt.drop 1) tk := HC.out
          simp only [Option.getD_some, Option.isSome_some] at HR5 HD5 ⊢
          have HRX : Hid (w5.rangeAt D 0 [.int .i64 df, .int .i64 ds, .int .i64 dl, .int .i64 dp, .slice ra rn rc]) := fun j v hj => by rw [Nat.zero_add]; exact HD5.out.cell j hj
          have HPF : Hid (Calls Tryz.prog 78 #[.agg #[.int .i64 df, .int .i64 ds, .int .i64 dl, .int .i64 dp, .slice ra rn rc], .string ⟨rt.toArray⟩, .int .i64 tk] w5 (PriceOfPost (priceV ds dl dp rates (rt.drop 1) tk) w5)) := priceFor_any w5 df ds dl dp ra rn rc rates rt tk HR5.out hgd HNP.out.1 HNP.out.2 z2
          clear HC HGK HR5 hgd HX5 HD5
          as_aux_lemma =>
            go_wp2_with (refine wpList_load_mid rfl 63 (.tmp 7) rfl D 0 rfl [.int .i64 df, .int .i64 ds, .int .i64 dl, .int .i64 dp, .slice ra rn rc] _ HRX.out Tryz.underlying63 rfl Tryz.deckSz ?_)
            refine HPF.out.mono ?_
            rintro e w6 ⟨rfl, hb⟩
            have HB6 := Lib.hid (ext_trans HBF.out hb)
            clear hb HBF HPF
            go_wp2_with fail
            go_ret2
            exact ⟨by first | rfl | (rw [List.drop_one]; rfl), HB6.out⟩
end Go.Proofs.YtppinnjdaoaddaaGreatDoor

set_option linter.unusedVariables false
set_option linter.unusedSimpArgs false
namespace Go.Proofs.YtppinnjdaoaddaaGreatDoor
open Go.RowKit Go.Sort Go.Lib

structure Snt where
  call : List UInt8
  c : List UInt8
  tried : Int
  price : Int
def noSnt : Snt := ⟨[], [], 0, 0⟩
instance : Inhabited Snt := ⟨noSnt⟩
def Snt.cells (x : Snt) : List Value := [.string ⟨x.call.toArray⟩, .string ⟨x.c.toArray⟩, .int .i64 x.tried, .int .i64 x.price]
/-- A moment is within a call or a fault; a carrier has a fault then; so many calls; whether it can be taken. -/
def inW (t : Int) (y : Flt) : Bool := decide (y.f ≤ t) && decide (t < y.t)
def brk (f : List Flt) (c : List UInt8) (t : Int) : Bool := f.any fun y => decide (y.c = c) && inW t y
def manyTo (L : List Flt) (c : List UInt8) (t : Int) : Nat → Int
  | 0 => 0
  | k + 1 => if (decide ((L.getD k noFlt).c = c) && inW t (L.getD k noFlt)) = true then manyTo L c t k + 1 else manyTo L c t k
def many (L : List Flt) (c : List UInt8) (t : Int) : Int := manyTo L c t L.length
def linesOf (l : List Carr) (c : List UInt8) : Int := (l.getD (idxC l c).toNat noCarr).lines
def freeB (l : List Carr) (f L : List Flt) (c : List UInt8) (t : Int) : Bool := !brk f c t && decide (many L c t < linesOf l c)
theorem manyTo_bound (L : List Flt) (c : List UInt8) (t : Int) : ∀ k, 0 ≤ manyTo L c t k ∧ manyTo L c t k ≤ k
  | 0 => by unfold manyTo; omega
  | k + 1 => by have := manyTo_bound L c t k; unfold manyTo; split <;> omega
theorem manyTo_congr {L M : List Flt} (c : List UInt8) (t : Int) : ∀ k, (∀ j, j < k → L.getD j noFlt = M.getD j noFlt) → manyTo L c t k = manyTo M c t k
  | 0, _ => rfl
  | k + 1, h => by unfold manyTo; rw [h k (Nat.lt_succ_self k), manyTo_congr c t k fun j hj => h j (by omega)]
theorem many_snoc (L : List Flt) (x : Flt) (c : List UInt8) (t : Int) : many (L ++ [x]) c t = if (decide (x.c = c) && inW t x) = true then many L c t + 1 else many L c t := by
  unfold many
  rw [List.length_append]
  show manyTo (L ++ [x]) c t (L.length + 1) = _
  have h1 : (L ++ [x]).getD L.length noFlt = x := by simp
  have h2 : manyTo (L ++ [x]) c t L.length = manyTo L c t L.length := manyTo_congr c t _ fun j hj => by
    simp [List.getD_eq_getElem?_getD, List.getElem?_append_left hj]
  show (if _ then manyTo (L ++ [x]) c t L.length + 1 else manyTo (L ++ [x]) c t L.length) = _
  rw [h1, h2]
/-- Calls that have ended are left out. -/
def lastAt (L : List Flt) (t : Int) : List Flt := L.filter fun y => !decide (y.t ≤ t)
def Like (u : Int) (A B : List Flt) : Prop := ∀ c t, u ≤ t → many A c t = many B c t
theorem snoc_ind {α : Type} {P : List α → Prop} (h0 : P []) (hs : ∀ l x, P l → P (l ++ [x])) (l : List α) : P l := by
  have : ∀ n, ∀ l : List α, l.length = n → P l := by
    intro n
    induction n with
    | zero => intro l hl; rw [List.length_eq_zero_iff.1 hl]; exact h0
    | succ n ih =>
      intro l hl
      have hne : l ≠ [] := fun h => by rw [h] at hl; simp at hl
      rw [← List.dropLast_concat_getLast hne]
      exact hs _ _ (ih _ (by simp [hl]))
  exact this _ l rfl
theorem like_last (A : List Flt) (u : Int) : Like u (lastAt A u) A := by
  intro c t ht
  induction A using snoc_ind with
  | h0 => rfl
  | hs l x ih =>
    have h1 : lastAt (l ++ [x]) u = lastAt l u ++ (if x.t ≤ u then [] else [x]) := by
      unfold lastAt
      rw [List.filter_append]
      by_cases h : x.t ≤ u <;> simp [h]
    rw [h1, many_snoc]
    by_cases h : x.t ≤ u
    · rw [if_pos h, List.append_nil, ih, if_neg]
      unfold inW
      have h3 : ¬ t < x.t := by omega
      simp [h3]
    · rw [if_neg h, many_snoc, ih]
theorem Like.snoc {u : Int} {A B : List Flt} (h : Like u A B) (x : Flt) : Like u (A ++ [x]) (B ++ [x]) := fun c t ht => by rw [many_snoc, many_snoc, h c t ht]
theorem Like.later {u v : Int} {A B : List Flt} (h : Like u A B) (huv : u ≤ v) : Like v A B := fun c t ht => h c t (by omega)
theorem Like.trans {u : Int} {A B C : List Flt} (h : Like u A B) (h2 : Like u B C) : Like u A C := fun c t ht => (h c t ht).trans (h2 c t ht)
theorem free_like {l : List Carr} {f A B : List Flt} {t : Int} (h : Like t A B) (c : List UInt8) : freeB l f A c t = freeB l f B c t := by
  unfold freeB
  rw [h c t (Int.le_refl _)]

/-- What a record costs by a carrier; the offers for it. -/
def priceBy (l : List Carr) (r : Rcd) (c : List UInt8) : Int := (costV (l.getD (idxC l c).toNat noCarr).decks (r.to_.drop 1) r.at_ r.talk).1
def offL (l : List Carr) (r : Rcd) : List Off := insL (ltOf cfP) (offTo l (r.to_.drop 1) r.at_ l.length)
/-- A round over offers in package carrier. -/
def stepO (l : List Carr) (f L : List Flt) (r : Rcd) (st : Snt × Int) (o : Off) : Snt × Int :=
  if freeB l f L o.c r.at_ = false then ((if st.1.c = [] then { st.1 with tried := st.1.tried + 1 } else st.1), st.2)
  else ((if st.1.c = [] then { st.1 with c := o.c, price := priceBy l r o.c } else st.1), max st.2 (priceBy l r o.c))
def sendO (l : List Carr) (f L : List Flt) (r : Rcd) (os : List Off) : Nat → Snt × Int
  | 0 => (⟨r.id, [], 0, 0⟩, 0)
  | k + 1 => stepO l f L r (sendO l f L r os k) (os.getD k noOff)
/-- The free ones, with their places, in the reference; the dearest; what is sent. -/
def freeTo (l : List Carr) (f L : List Flt) (t : Int) (os : List Off) : Nat → List (Off × Int)
  | 0 => []
  | k + 1 => freeTo l f L t os k ++ (if freeB l f L (os.getD k noOff).c t = true then [(os.getD k noOff, (k : Int))] else [])
def dearTo (l : List Carr) (r : Rcd) (fr : List (Off × Int)) : Nat → Int
  | 0 => 0
  | k + 1 => max (dearTo l r fr k) (priceBy l r (fr.getD k (noOff, 0)).1.c)
def sntTo (l : List Carr) (r : Rcd) (n : Int) (fr : List (Off × Int)) (k : Nat) : Snt := if k = 0 then ⟨r.id, [], n, 0⟩ else ⟨r.id, (fr.getD 0 (noOff, 0)).1.c, (fr.getD 0 (noOff, 0)).2, priceBy l r (fr.getD 0 (noOff, 0)).1.c⟩
def callOf (r : Rcd) (c : List UInt8) : Flt := ⟨c, r.at_, r.at_ + r.ring + r.talk⟩
def lastTo (r : Rcd) (L : List Flt) (fr : List (Off × Int)) (k : Nat) : List Flt := if k = 0 then L else L ++ [callOf r (fr.getD 0 (noOff, 0)).1.c]
theorem freeTo_len (l : List Carr) (f L : List Flt) (t : Int) (os : List Off) : ∀ k, (freeTo l f L t os k).length ≤ k
  | 0 => Nat.le_refl _
  | k + 1 => by have := freeTo_len l f L t os k; unfold freeTo; split <;> simp <;> omega
theorem dear_snoc (l : List Carr) (r : Rcd) (fr : List (Off × Int)) (x : Off × Int) : dearTo l r (fr ++ [x]) (fr ++ [x]).length = max (dearTo l r fr fr.length) (priceBy l r x.1.c) := by
  have hc : ∀ k, k ≤ fr.length → dearTo l r (fr ++ [x]) k = dearTo l r fr k := by
    intro k
    induction k with
    | zero => intro _; rfl
    | succ k ih =>
      intro hk
      unfold dearTo
      rw [ih (by omega)]
      have : (fr ++ [x]).getD k (noOff, 0) = fr.getD k (noOff, 0) := by simp [List.getD_eq_getElem?_getD, List.getElem?_append_left (show k < fr.length by omega)]
      rw [this]
  rw [List.length_append]
  show max (dearTo l r (fr ++ [x]) fr.length) _ = _
  rw [hc _ (Nat.le_refl _)]
  have : (fr ++ [x]).getD fr.length (noOff, 0) = x := by simp
  rw [this]
/-- Both come to the same. -/
theorem send_same (l : List Carr) (f A B : List Flt) (r : Rcd) (os : List Off) (hAB : Like r.at_ A B) (hos : ∀ o ∈ os, o.c ≠ []) : ∀ k, k ≤ os.length →
    (sendO l f A r os k).1 = sntTo l r (k : Int) (freeTo l f B r.at_ os k) (freeTo l f B r.at_ os k).length ∧ (sendO l f A r os k).2 = dearTo l r (freeTo l f B r.at_ os k) (freeTo l f B r.at_ os k).length := by
  have hfr : ∀ k, k ≤ os.length → ∀ x ∈ freeTo l f B r.at_ os k, x.1.c ≠ [] := by
    intro k
    induction k with
    | zero => intro _ x hx; cases hx
    | succ k ih =>
      intro hk x hx
      unfold freeTo at hx
      rcases List.mem_append.1 hx with h | h
      · exact ih (by omega) x h
      · split at h
        · rw [List.mem_singleton.1 h]
          refine hos _ ?_
          rw [List.getD_eq_getElem?_getD, List.getElem?_eq_getElem (show k < os.length by omega)]
          exact List.getElem_mem _
        · cases h
  intro k
  induction k with
  | zero => intro _; exact ⟨rfl, rfl⟩
  | succ k ih =>
    intro hk
    obtain ⟨h1, h2⟩ := ih (by omega)
    have hf := hfr k (by omega)
    show (stepO l f A r (sendO l f A r os k) (os.getD k noOff)).1 = _ ∧ _ = _
    have he : freeTo l f B r.at_ os (k + 1) = freeTo l f B r.at_ os k ++ (if freeB l f B (os.getD k noOff).c r.at_ = true then [(os.getD k noOff, (k : Int))] else []) := rfl
    have hne : (os.getD k noOff).c ≠ [] := by
      refine hos _ ?_
      rw [List.getD_eq_getElem?_getD, List.getElem?_eq_getElem (show k < os.length by omega)]
      exact List.getElem_mem _
    rw [he]
    show (stepO l f A r (sendO l f A r os k) (os.getD k noOff)).1 = _ ∧ (stepO l f A r (sendO l f A r os k) (os.getD k noOff)).2 = _
    unfold stepO
    rw [free_like hAB]
    generalize freeTo l f B r.at_ os k = fr at h1 h2 hf ⊢
    generalize os.getD k noOff = o at hne ⊢
    rw [h1, h2]
    cases hq : freeB l f B o.c r.at_
    · rw [if_pos rfl, show (if false = true then [(o, (k : Int))] else []) = ([] : List (Off × Int)) from rfl, List.append_nil]
      refine ⟨?_, rfl⟩
      cases fr with
      | nil => simp [sntTo]
      | cons x fr =>
        have := hf x (List.mem_cons_self ..)
        simp [sntTo, this]
    · rw [if_neg (show ¬ (true = false) by decide), show (if true = true then [(o, (k : Int))] else []) = ([(o, (k : Int))] : List (Off × Int)) from rfl]
      refine ⟨?_, (dear_snoc l r fr (o, (k : Int))).symm⟩
      cases fr with
      | nil => simp [sntTo]
      | cons x fr =>
        have := hf x (List.mem_cons_self ..)
        simp [sntTo, this]

/-- All records: package carrier, and the reference. -/
structure SSt where
  out : List Snt
  calls : List Flt
  saved : Int
def sendR (l : List Carr) (f : List Flt) (r : Rcd) (st : SSt) : SSt :=
  let L1 := lastAt st.calls r.at_
  let q := sendO l f L1 r (offL l r) (offL l r).length
  if q.1.c = [] then ⟨st.out ++ [q.1], L1, st.saved⟩ else ⟨st.out ++ [q.1], L1 ++ [callOf r q.1.c], st.saved + (q.2 - q.1.price)⟩
def sendTo (l : List Carr) (f : List Flt) (rs : List Rcd) : Nat → SSt
  | 0 => ⟨[], [], 0⟩
  | k + 1 => sendR l f (rs.getD k noRcd) (sendTo l f rs k)
def refR (l : List Carr) (f : List Flt) (r : Rcd) (st : SSt) : SSt :=
  let fr := freeTo l f st.calls r.at_ (offL l r) (offL l r).length
  let s := sntTo l r ((offL l r).length : Int) fr fr.length
  ⟨st.out ++ [s], lastTo r st.calls fr fr.length, st.saved + (dearTo l r fr fr.length - s.price)⟩
def refAll (l : List Carr) (f : List Flt) (rs : List Rcd) : Nat → SSt
  | 0 => ⟨[], [], 0⟩
  | k + 1 => refR l f (rs.getD k noRcd) (refAll l f rs k)
theorem sendR_same (l : List Carr) (f : List Flt) (r : Rcd) (S R : SSt) (u : Int) (h1 : S.out = R.out) (h2 : S.saved = R.saved) (h3 : Like u S.calls R.calls) (hu : u ≤ r.at_) (hos : ∀ o ∈ offL l r, o.c ≠ []) :
    (sendR l f r S).out = (refR l f r R).out ∧ (sendR l f r S).saved = (refR l f r R).saved ∧ Like r.at_ (sendR l f r S).calls (refR l f r R).calls := by
  have hL : Like r.at_ (lastAt S.calls r.at_) R.calls := (like_last S.calls r.at_).trans (h3.later hu)
  obtain ⟨e1, e2⟩ := send_same l f (lastAt S.calls r.at_) R.calls r (offL l r) hL hos _ (Nat.le_refl _)
  unfold sendR refR
  simp only
  rw [e1, e2, h1, h2]
  have hz : ∀ x ∈ freeTo l f R.calls r.at_ (offL l r) (offL l r).length, x.1.c ≠ [] := by
    have : ∀ k, k ≤ (offL l r).length → ∀ x ∈ freeTo l f R.calls r.at_ (offL l r) k, x.1.c ≠ [] := by
      intro k
      induction k with
      | zero => intro _ x hx; cases hx
      | succ k ih =>
        intro hk x hx
        unfold freeTo at hx
        rcases List.mem_append.1 hx with h | h
        · exact ih (by omega) x h
        · split at h
          · rw [List.mem_singleton.1 h]
            refine hos _ ?_
            rw [List.getD_eq_getElem?_getD, List.getElem?_eq_getElem (show k < (offL l r).length by omega)]
            exact List.getElem_mem _
          · cases h
    exact this _ (Nat.le_refl _)
  generalize freeTo l f R.calls r.at_ (offL l r) (offL l r).length = fr at hz ⊢
  cases fr with
  | nil =>
    simp only [List.length_nil, sntTo, lastTo, dearTo, if_true]
    exact ⟨trivial, by omega, hL⟩
  | cons x fr =>
    have hx := hz x (List.mem_cons_self ..)
    have hne : ¬ (x :: fr).length = 0 := by simp
    simp only [sntTo, lastTo, if_neg hne, List.getD_cons_zero, if_neg hx]
    exact ⟨trivial, trivial, hL.snoc _⟩
theorem sendTo_same (l : List Carr) (f : List Flt) (rs : List Rcd) (hup : ∀ i, 0 < i → i < rs.length → (rs.getD (i - 1) noRcd).at_ ≤ (rs.getD i noRcd).at_) (hos : ∀ i, i < rs.length → ∀ o ∈ offL l (rs.getD i noRcd), o.c ≠ []) : ∀ k, k ≤ rs.length →
    (sendTo l f rs k).out = (refAll l f rs k).out ∧ (sendTo l f rs k).saved = (refAll l f rs k).saved := by
  have H : ∀ k, k ≤ rs.length → (sendTo l f rs k).out = (refAll l f rs k).out ∧ (sendTo l f rs k).saved = (refAll l f rs k).saved ∧ (k = 0 → (sendTo l f rs k).calls = (refAll l f rs k).calls) ∧ (0 < k → Like (rs.getD (k - 1) noRcd).at_ (sendTo l f rs k).calls (refAll l f rs k).calls) := by
    intro k
    induction k with
    | zero => intro _; exact ⟨rfl, rfl, fun _ => rfl, fun h => absurd h (by omega)⟩
    | succ k ih =>
      intro hk
      obtain ⟨q1, q2, q3, q4⟩ := ih (by omega)
      have hl : Like (rs.getD k noRcd).at_ (sendTo l f rs k).calls (refAll l f rs k).calls := by
        rcases Nat.eq_zero_or_pos k with h0 | h0
        · rw [q3 h0]; intro c t _; rfl
        · exact (q4 h0).later (hup k h0 (by omega))
      obtain ⟨p1, p2, p3⟩ := sendR_same l f (rs.getD k noRcd) _ _ _ q1 q2 hl (Int.le_refl _) (hos k (by omega))
      exact ⟨p1, p2, fun h => absurd h (by omega), fun _ => p3⟩
  intro k hk
  exact ⟨(H k hk).1, (H k hk).2.1⟩

/-- The error of records that are sent. -/
def sndErr (rs : List Rcd) (i : Nat) : Int :=
  if isKeyB (rs.getD i noRcd).id = false then 5
  else if isNumB (rs.getD i noRcd).to_ = false then 3
  else if isMomB (rs.getD i noRcd).at_ = false ∨ inB (rs.getD i noRcd).ring 0 86400000 = false ∨ inB (rs.getD i noRcd).talk 0 86400000 = false then 1
  else if 0 < i ∧ (rs.getD i noRcd).at_ < (rs.getD (i - 1) noRcd).at_ then 7
  else 0
def sndsErr (rs : List Rcd) : Int := if 3000 < rs.length then 2 else firstErr (sndErr rs) rs.length
def chkSE (l : List Carr) (f : List Flt) (rs : List Rcd) : Int := if chkFE l f ≠ 0 then chkFE l f else sndsErr rs
theorem snds_cases (rs : List Rcd) (h : rs.length ≤ 3000) :
    (∀ k, k < rs.length → (∀ j, j < k → sndErr rs j = 0) → sndErr rs k ≠ 0 → sndsErr rs = sndErr rs k) ∧ ((∀ j, j < rs.length → sndErr rs j = 0) → sndsErr rs = 0) := by
  unfold sndsErr
  refine ⟨fun k k1 k2 k3 => ?_, fun k1 => ?_⟩
  · rw [if_neg (by omega), first_some k2 k1 k3]
  · rw [if_neg (by omega), first_none k1]
theorem snd_zero {rs : List Rcd} {i : Nat} (h : sndErr rs i = 0) : isNumB (rs.getD i noRcd).to_ = true ∧ isMomB (rs.getD i noRcd).at_ = true ∧ (0 ≤ (rs.getD i noRcd).ring ∧ (rs.getD i noRcd).ring ≤ 86400000) ∧ (0 ≤ (rs.getD i noRcd).talk ∧ (rs.getD i noRcd).talk ≤ 86400000) ∧ (0 < i → (rs.getD (i - 1) noRcd).at_ ≤ (rs.getD i noRcd).at_) := by
  unfold sndErr at h
  generalize rs.getD i noRcd = r at h ⊢
  split at h
  · cases h
  split at h
  · cases h
  rename_i h1 h2
  split at h
  · cases h
  rename_i h3
  split at h
  · cases h
  rename_i h4
  have e1 : isMomB r.at_ = true := by cases h9 : isMomB r.at_ <;> simp_all
  have e2 : inB r.ring 0 86400000 = true := by cases h9 : inB r.ring 0 86400000 <;> simp_all
  have e3 : inB r.talk 0 86400000 = true := by cases h9 : inB r.talk 0 86400000 <;> simp_all
  unfold inB at e2 e3
  have e4 : isNumB r.to_ = true := by cases h9 : isNumB r.to_ <;> simp_all
  refine ⟨e4, e1, by simpa using e2, by simpa using e3, fun h0 => ?_⟩
  rcases Int.lt_or_le r.at_ (rs.getD (i - 1) noRcd).at_ with h5 | h5
  · exact absurd ⟨h0, h5⟩ h4
  · exact h5
theorem snds_zero {rs : List Rcd} (h : rs.length ≤ 3000) (h0 : sndsErr rs = 0) : ∀ i, i < rs.length → sndErr rs i = 0 := by
  unfold sndsErr at h0
  rw [if_neg (by omega)] at h0
  exact first_zero h0

theorem insL_mem {α : Type} [Inhabited α] (lt : α → α → Bool) (l : List α) (hl : l.length ≤ 3) : ∀ o ∈ insL lt l, o ∈ l := by
  match l, hl with
  | [], _ =>
    unfold insL insertionSort insOuter
    simp
  | [x], _ =>
    unfold insL insertionSort insOuter
    simp
  | [x, y], _ =>
    have e : insL lt [x, y] = if lt y x = true then [y, x] else [x, y] := by
      unfold insL insertionSort
      rw [insOuter, if_pos (by simp), insOuter, if_neg (by simp)]
      cases hq : lt y x <;> simp [insInner, swp, hq]
    rw [e]
    intro o ho
    split at ho <;> simp at ho ⊢ <;> rcases ho with h | h <;> simp [h]
  | [x, y, z], _ =>
    have e : insL lt [x, y, z] = if lt y x = true then (if lt z x = true then (if lt z y = true then [z, y, x] else [y, z, x]) else [y, x, z]) else (if lt z y = true then (if lt z x = true then [z, x, y] else [x, z, y]) else [x, y, z]) := by
      unfold insL insertionSort
      rw [insOuter, if_pos (by simp), insOuter, if_pos (by simp), insOuter, if_neg (by simp)]
      cases hq : lt y x <;> cases hr : lt z x <;> cases ht : lt z y <;> simp [insInner, swp, hq, hr, ht]
    rw [e]
    intro o ho
    repeat' split at ho
    all_goals (simp at ho ⊢; rcases ho with h | h | h <;> simp [h])
theorem offTo_mem {l : List Carr} {s : List UInt8} {t : Int} : ∀ k, k ≤ l.length → ∀ o ∈ offTo l s t k, hasC l o.c = true
  | 0, _, o, h => by cases h
  | k + 1, hk, o, h => by
    unfold offTo at h
    rcases List.mem_append.1 h with h | h
    · exact offTo_mem k (by omega) o h
    · split at h
      · rw [List.mem_singleton.1 h]
        unfold hasC
        rw [List.any_eq_true]
        refine ⟨l.getD k noCarr, ?_, by simp⟩
        rw [List.getD_eq_getElem?_getD, List.getElem?_eq_getElem (show k < l.length by omega)]
        exact List.getElem_mem _
      · cases h
theorem offL_mem {l : List Carr} (hl : l.length ≤ 3) (r : Rcd) : ∀ o ∈ offL l r, 0 ≤ idxC l o.c := fun o ho => by
  have h1 := offTo_mem l.length (Nat.le_refl _) o (insL_mem _ _ (Nat.le_trans (offTo_len _ _ _ _) hl) o ho)
  rw [← idxC_has] at h1
  simpa using h1
theorem offL_ne {l : List Carr} (hl : l.length ≤ 3) (h0 : carrsErr l = 0) (r : Rcd) : ∀ o ∈ offL l r, o.c ≠ [] := fun o ho h => by
  have h1 := offL_mem hl r o ho
  have h2 := idxC_empty (by omega) h0
  rw [h] at h1
  omega
theorem offL_len {l : List Carr} (hl : l.length ≤ 3) (r : Rcd) : (offL l r).length ≤ 3 := by
  unfold offL
  rw [insL_len]
  exact Nat.le_trans (offTo_len _ _ _ _) hl

/-- Prices are small. -/
theorem priceR_bound {ds dl dp pr talk : Int} (h1 : 0 ≤ ds ∧ ds ≤ 100000000) (h2 : 0 ≤ dl ∧ dl ≤ 86400000) (h3 : 1 ≤ dp ∧ dp ≤ 86400000) (h4 : 0 ≤ pr ∧ pr ≤ 100000000) (h5 : 0 ≤ talk ∧ talk ≤ 86400000) : 0 ≤ priceR ds dl dp pr talk ∧ priceR ds dl dp pr talk ≤ 1000000000000 := by
  unfold priceR
  split
  · omega
  · have hp := paid_bound h2 h3 h5
    generalize paidR dl dp talk = M at hp ⊢
    have m0 : 0 ≤ pr * M := Int.mul_nonneg h4.1 hp.1
    have m1 : pr * M ≤ 100000000 * 200000000 := Int.mul_le_mul h4.2 hp.2 hp.1 (by omega)
    generalize pr * M = q at m0 m1 ⊢
    omega
theorem costV_bound {ps : List Deck} {s : List UInt8} {t talk : Int} (hg : ∀ d, deckV ps t = some d → DeckGood d.setup d.least d.step d.rates) (h5 : 0 ≤ talk ∧ talk ≤ 86400000) : 0 ≤ (costV ps s t talk).1 ∧ (costV ps s t talk).1 ≤ 1000000000000 := by
  unfold costV
  cases hd : deckV ps t with
  | none => simp
  | some d =>
    have h := hg d hd
    simp only
    unfold priceV
    cases hr : rateOf d.rates s 15 with
    | none => simp
    | some r =>
      simp only
      split
      · simp
      · have hm : r ∈ d.rates := rateTo_mem _ hr
        exact priceR_bound h.h1 h.h2 h.h3 (h.each r hm) h5
theorem priceBy_bound {l : List Carr} {r : Rcd} {c : List UInt8} (hg : GoodAt l r.at_) (hc : 0 ≤ idxC l c) (h5 : 0 ≤ r.talk ∧ r.talk ≤ 86400000) : 0 ≤ priceBy l r c ∧ priceBy l r c ≤ 1000000000000 := costV_bound (hg _ (idxC_lt hc)) h5
end Go.Proofs.YtppinnjdaoaddaaGreatDoor

set_option linter.unusedVariables false
set_option linter.unusedSimpArgs false
namespace Go.Proofs.YtppinnjdaoaddaaGreatDoor
open Go.RowKit Go.Sort Go.Lib

def eqS (x y : Snt) : Bool := x.call == y.call && (x.c == y.c && (x.tried == y.tried && x.price == y.price))
theorem neqS : NeqAt Tryz.prog 102 (fun x : Snt => .agg (Snt.cells x).toArray) eqS := by
  refine ⟨fun x y w => ?_, GuardAt.agg _ (by kernel_rfl)⟩
  obtain ⟨d, c, n1, n2⟩ := x
  obtain ⟨d', c', m1, m2⟩ := y
  show (binOp .neq 102 (.agg #[.string ⟨d.toArray⟩, .string ⟨c.toArray⟩, .int .i64 n1, .int .i64 n2]) (.agg #[.string ⟨d'.toArray⟩, .string ⟨c'.toArray⟩, .int .i64 m1, .int .i64 m2])).run Tryz.prog w = _
  go_simp
  unfold eqS
  by_cases h0 : d = d' <;> by_cases h1 : c = c' <;> by_cases h2 : n1 = m1 <;> by_cases h3 : n2 = m2 <;> simp [*]
theorem allEqS_self : ∀ (l : List Snt), Lib.allEq eqS l l = true
  | [] => rfl
  | x :: l => by
    show (eqS x x && Lib.allEq eqS l l) = true
    rw [show eqS x x = true by simp [eqS], allEqS_self l]; rfl
theorem equalS_none (w : World) (a a2 : Option Addr) (c c2 : Nat) : Calls Tryz.prog 48 #[.slice a 0 c, .slice a2 0 c2] w fun e w' => e = .returned (.bool true) ∧ Below w.heap.size w w' := by
  go_enter Tryz.func48, Tryz.ntmps48
  go_wp2_with fail
  go_loopw [13] (fun i wr => i = .int .i64 0 ∧ Hid (Below w.heap.size w wr)) (fun _ _ => 0)
  case atStart => exact ⟨rfl, (by (try show Below _ _ _); repeat (with_reducible first | exact Below.refl _ _ | assumption | exact Hid.out (by assumption) | refine ext_alloc ?_ | refine ext_drewN ?_ | refine ext_drew ?_ | refine ext_setCell ?_ (Nat.le_refl _) | refine ext_setCell ?_ (Nat.le_succ _) | refine ext_trans ?_ (by assumption) | (refine ext_setCell ?_ (by simp)) | (refine ext_setCell ?_ (by simp at *; omega))))⟩
  case round =>
    obtain ⟨rfl, HB⟩ := hrel
    go_wp2_with fail
    go_ret
    exact ⟨rfl, (by (try show Below _ _ _); repeat (with_reducible first | exact Below.refl _ _ | assumption | exact Hid.out (by assumption) | refine ext_alloc ?_ | refine ext_drewN ?_ | refine ext_drew ?_ | refine ext_setCell ?_ (Nat.le_refl _) | refine ext_setCell ?_ (Nat.le_succ _) | refine ext_trans ?_ (by assumption) | (refine ext_setCell ?_ (by simp)) | (refine ext_setCell ?_ (by simp at *; omega))))⟩
theorem bang_getDS {l : List Snt} {j : Nat} (h : j < l.length) : l[j]! = l.getD j noSnt := by
  simp [List.getD_eq_getElem?_getD, h]
theorem equal_sent {w : World} {base base2 : Nat} {v v2 : Value} {xs ys : List Snt} (h : w.ownsRow base 102 4 v xs.length ((xs.map Snt.cells).flatten)) (h2 : w.ownsRow base2 102 4 v2 ys.length ((ys.map Snt.cells).flatten)) (he : xs = ys) (hn : xs.length ≤ 100000) :
    Calls Tryz.prog 48 #[v, v2] w fun e w' => e = .returned (.bool true) ∧ Below w.heap.size w w' := by
  subst he
  by_cases h0 : xs.length = 0
  · obtain ⟨a, c, rfl⟩ := own_shape h
    obtain ⟨a2, c2, rfl⟩ := own_shape h2
    rw [h0]
    exact equalS_none w a a2 c c2
  · obtain ⟨a, c, rfl⟩ := own_shape h
    obtain ⟨a2, c2, rfl⟩ := own_shape h2
    obtain ⟨g, rfl, -, -⟩ := own_pos h (by omega)
    obtain ⟨g2, rfl, -, -⟩ := own_pos h2 (by omega)
    refine (Tryz.slices_eqSn Snt.cells (fun _ => rfl) eqS neqS g 0 xs.length c g2 0 xs.length c2 xs xs w (Nat.le_refl _) (Nat.le_refl _) (by omega) (by omega) (fun j hj i v hv => ?_) (fun j hj i v hv => ?_)).mono ?_
    · rw [bang_getDS hj] at hv
      rw [Nat.zero_add]
      exact own_field Snt.cells (fun _ => rfl) h j i noSnt hj (by have := (List.getElem?_eq_some_iff.1 hv).1; exact this) hv
    · rw [bang_getDS hj] at hv
      rw [Nat.zero_add]
      exact own_field Snt.cells (fun _ => rfl) h2 j i noSnt hj (by have := (List.getElem?_eq_some_iff.1 hv).1; exact this) hv
    · rintro e w' ⟨rfl, q, rfl⟩
      rw [List.take_length, allEqS_self]
      exact ⟨rfl, ext_drewN (Below.refl _ _)⟩
end Go.Proofs.YtppinnjdaoaddaaGreatDoor

set_option linter.unusedVariables false
set_option linter.unusedSimpArgs false
namespace Go.Proofs.YtppinnjdaoaddaaGreatDoor
open Go.RowKit

set_option maxRecDepth 100000 in
set_option maxHeartbeats 4000000 in
theorem faultOrder_any (x y : Flt) (W : World) : Calls Tryz.prog 85 #[.agg (Flt.cells x).toArray, .agg (Flt.cells y).toArray] W fun e w' => e = .returned (.int .i64 (fltCmp x y)) ∧ Below W.heap.size W w' := by
  obtain ⟨xc, xf, xt⟩ := x
  obtain ⟨yc, yf, yt⟩ := y
  have hcon2 := fun w => Tryz.cmp_Compare xf yf w
  have hcon : ∀ w, Calls _ _ #[.string ⟨xc.toArray⟩, .string ⟨yc.toArray⟩] w fun e w' => e = .returned (.int .i64 (Lib.compareBytes xc yc)) ∧ w' = w := fun w => Tryz.strings_Compare ⟨xc.toArray⟩ ⟨yc.toArray⟩ w
  show Calls Tryz.prog 85 #[.agg #[.string ⟨xc.toArray⟩, .int .i64 xf, .int .i64 xt], .agg #[.string ⟨yc.toArray⟩, .int .i64 yf, .int .i64 yt]] W fun e w' => e = .returned (.int .i64 (firstE (Lib.compareBytes xc yc) (Lib.compareInt xf yf))) ∧ Below W.heap.size W w'
  generalize Lib.compareBytes xc yc = r at hcon ⊢
  generalize Lib.compareInt xf yf = r2 at hcon2 ⊢
  go_enter Tryz.func85, Tryz.ntmps85
  go_upto_region 1 with (fail)
  have HGR : Hid (Below W.heap.size W ((W.alloc (.cells #[.string ⟨xc.toArray⟩, .int .i64 xf, .int .i64 xt] 132)).alloc (.cells #[.string ⟨yc.toArray⟩, .int .i64 yf, .int .i64 yt] 132))) := ext_alloc (ext_alloc (Below.refl _ _))
  have hS : (fun W9 : World => W9.cell? ⟨W.heap.size, 0, none⟩ = some (.string ⟨xc.toArray⟩) ∧ W9.cell? ⟨W.heap.size, 1, none⟩ = some (.int .i64 xf) ∧ W9.cell? ⟨W.heap.size + 1, 0, none⟩ = some (.string ⟨yc.toArray⟩) ∧ W9.cell? ⟨W.heap.size + 1, 1, none⟩ = some (.int .i64 yf)) ((W.alloc (.cells #[.string ⟨xc.toArray⟩, .int .i64 xf, .int .i64 xt] 132)).alloc (.cells #[.string ⟨yc.toArray⟩, .int .i64 yf, .int .i64 yt] 132)).drew := ⟨by go_simp, by go_simp, by go_simp, by go_simp⟩
  have hsz : ((W.alloc (.cells #[.string ⟨xc.toArray⟩, .int .i64 xf, .int .i64 xt] 132)).alloc (.cells #[.string ⟨yc.toArray⟩, .int .i64 yf, .int .i64 yt] 132)).heap.size = W.heap.size + 2 := by simp
  generalize ((W.alloc (.cells #[.string ⟨xc.toArray⟩, .int .i64 xf, .int .i64 xt] 132)).alloc (.cells #[.string ⟨yc.toArray⟩, .int .i64 yf, .int .i64 yt] 132)) = WB at HGR hS hsz ⊢
  generalize hBB : W.heap.size = B at hS hsz ⊢
  refine region_seqI (S := fun W9 : World => W9.cell? ⟨B, 0, none⟩ = some (.string ⟨xc.toArray⟩) ∧ W9.cell? ⟨B, 1, none⟩ = some (.int .i64 xf) ∧ W9.cell? ⟨B + 1, 0, none⟩ = some (.string ⟨yc.toArray⟩) ∧ W9.cell? ⟨B + 1, 1, none⟩ = some (.int .i64 yf)) [(true, 0), (true, 1), (true, 2), (true, 3), (true, 5), (true, 6), (true, 7), (true, 8), (true, 9), (true, 10), (false, 4), (false, 11), (false, 12), (false, 13), (true, 14)] (by kernel_rfl) (by kernel_rfl) rfl (by kernel_rfl) hS ?_
  simp only [seqOps, List.getD_cons_zero, List.getD_cons_succ]
  refine seqI_take (v := .pointer (some ⟨B, 0, none⟩)) rfl (fun W hW => by obtain ⟨m0, m1, m2, m3⟩ := hW; go_simp) (fun _ _ _ h => h) ?_
  simp only [Act.put, List.setIfInBounds_toArray, List.set_cons_zero, List.set_cons_succ]
  refine seqI_take (v := .string ⟨xc.toArray⟩) rfl (fun W hW => by obtain ⟨m0, m1, m2, m3⟩ := hW; go_simp) (fun _ _ _ h => h) ?_
  simp only [Act.put, List.setIfInBounds_toArray, List.set_cons_zero, List.set_cons_succ]
  refine seqI_take (v := .pointer (some ⟨B + 1, 0, none⟩)) rfl (fun W hW => by obtain ⟨m0, m1, m2, m3⟩ := hW; go_simp) (fun _ _ _ h => h) ?_
  simp only [Act.put, List.setIfInBounds_toArray, List.set_cons_zero, List.set_cons_succ]
  refine seqI_take (v := .string ⟨yc.toArray⟩) rfl (fun W hW => by obtain ⟨m0, m1, m2, m3⟩ := hW; go_simp) (fun _ _ _ h => h) ?_
  simp only [Act.put, List.setIfInBounds_toArray, List.set_cons_zero, List.set_cons_succ]
  refine seqI_take (v := .pointer (some ⟨B, 1, none⟩)) rfl (fun W hW => by obtain ⟨m0, m1, m2, m3⟩ := hW; go_simp) (fun _ _ _ h => h) ?_
  simp only [Act.put, List.setIfInBounds_toArray, List.set_cons_zero, List.set_cons_succ]
  refine seqI_take (v := .pointer (some ⟨B, 1, none⟩)) rfl (fun W hW => by obtain ⟨m0, m1, m2, m3⟩ := hW; go_simp) (fun _ _ _ h => h) ?_
  simp only [Act.put, List.setIfInBounds_toArray, List.set_cons_zero, List.set_cons_succ]
  refine seqI_take (v := .int .i64 xf) rfl (fun W hW => by obtain ⟨m0, m1, m2, m3⟩ := hW; go_simp) (fun _ _ _ h => h) ?_
  simp only [Act.put, List.setIfInBounds_toArray, List.set_cons_zero, List.set_cons_succ]
  refine seqI_take (v := .pointer (some ⟨B + 1, 1, none⟩)) rfl (fun W hW => by obtain ⟨m0, m1, m2, m3⟩ := hW; go_simp) (fun _ _ _ h => h) ?_
  simp only [Act.put, List.setIfInBounds_toArray, List.set_cons_zero, List.set_cons_succ]
  refine seqI_take (v := .pointer (some ⟨B + 1, 1, none⟩)) rfl (fun W hW => by obtain ⟨m0, m1, m2, m3⟩ := hW; go_simp) (fun _ _ _ h => h) ?_
  simp only [Act.put, List.setIfInBounds_toArray, List.set_cons_zero, List.set_cons_succ]
  refine seqI_take (v := .int .i64 yf) rfl (fun W hW => by obtain ⟨m0, m1, m2, m3⟩ := hW; go_simp) (fun _ _ _ h => h) ?_
  simp only [Act.put, List.setIfInBounds_toArray, List.set_cons_zero, List.set_cons_succ]
  refine seqI_call 83 #[.string ⟨xc.toArray⟩, .string ⟨yc.toArray⟩] rfl (by go_simp) (hcon _) ?_
  rintro e w6 ⟨rfl, rfl⟩
  refine ⟨_, rfl, hS, ?_⟩
  simp only [Act.put, List.setIfInBounds_toArray, List.set_cons_zero, List.set_cons_succ]
  refine seqI_call 82 #[.int .i64 xf, .int .i64 yf] rfl (by go_simp) (hcon2 _) ?_
  rintro e w6 ⟨rfl, rfl⟩
  refine ⟨_, rfl, hS, ?_⟩
  simp only [Act.put, List.setIfInBounds_toArray, List.set_cons_zero, List.set_cons_succ]
  refine seqI_do rfl (wp_val (bs_ii _ _ _ 9 16 r r2 rfl rfl rfl) ⟨?_, ?_⟩)
  · obtain ⟨m0, m1, m2, m3⟩ := hS
    have hB1 : WB.drew.heap.size = B + 2 := hsz
    have hb : Below WB.drew.heap.size WB.drew (WB.drew.alloc (.cells #[.int .i64 r, .int .i64 r2] 3)) := ext_alloc (Below.refl _ _)
    exact ⟨(hb.cell (p := ⟨B, 0, none⟩) (by show B < WB.drew.heap.size; rw [hB1]; omega)).trans m0, (hb.cell (p := ⟨B, 1, none⟩) (by show B < WB.drew.heap.size; rw [hB1]; omega)).trans m1, (hb.cell (p := ⟨B + 1, 0, none⟩) (by show B + 1 < WB.drew.heap.size; rw [hB1]; omega)).trans m2, (hb.cell (p := ⟨B + 1, 1, none⟩) (by show B + 1 < WB.drew.heap.size; rw [hB1]; omega)).trans m3⟩
  simp only [Act.put, List.setIfInBounds_toArray, List.set_cons_zero, List.set_cons_succ]
  refine seqI_call 81 #[.slice (some ⟨WB.drew.heap.size, 0, none⟩) 2 2] rfl (by go_simp) (orInt_any r r2 WB.drew.heap.size _ (by simp) (by go_simp) (by go_simp)) ?_
  rintro e w6 ⟨rfl, rfl⟩
  refine ⟨_, rfl, ?_, ?_⟩
  · obtain ⟨m0, m1, m2, m3⟩ := hS
    have hB1 : WB.drew.heap.size = B + 2 := hsz
    have hb : Below WB.drew.heap.size WB.drew (WB.drew.alloc (.cells #[.int .i64 r, .int .i64 r2] 3)) := ext_alloc (Below.refl _ _)
    exact ⟨(hb.cell (p := ⟨B, 0, none⟩) (by show B < WB.drew.heap.size; rw [hB1]; omega)).trans m0, (hb.cell (p := ⟨B, 1, none⟩) (by show B < WB.drew.heap.size; rw [hB1]; omega)).trans m1, (hb.cell (p := ⟨B + 1, 0, none⟩) (by show B + 1 < WB.drew.heap.size; rw [hB1]; omega)).trans m2, (hb.cell (p := ⟨B + 1, 1, none⟩) (by show B + 1 < WB.drew.heap.size; rw [hB1]; omega)).trans m3⟩
  simp only [Act.put, List.setIfInBounds_toArray, List.set_cons_zero, List.set_cons_succ]
  refine seqI_take (v := .int .i64 (firstE r r2)) rfl (fun W hW => by clear hW; go_simp) (fun _ _ _ h => h) ?_
  simp only [Act.put, List.setIfInBounds_toArray, List.set_cons_zero, List.set_cons_succ]
  refine seqI_nil ?_
  have HFN : Hid (Below W.heap.size W (WB.drew.alloc (.cells #[.int .i64 r, .int .i64 r2] 3))) := ext_alloc (ext_drew HGR.out)
  go_wp2_with fail
  go_ret
  exact ⟨rfl, HFN.out⟩
end Go.Proofs.YtppinnjdaoaddaaGreatDoor
