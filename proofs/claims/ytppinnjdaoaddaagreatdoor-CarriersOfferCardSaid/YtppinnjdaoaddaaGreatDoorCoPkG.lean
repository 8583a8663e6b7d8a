/- What is proved here: lemmas and contracts for the statement, put together out of smaller texts (RegionNoS, GenPick, CarrCso, CarrDraw). No condition beyond those stated. -/
import Derived.Test.YtppinnjdaoaddaaGreatDoorCoPkF
import Derived.Test.YtppinnjdaoaddaaGreatDoorCoPkB
import Derived.Test.YtppinnjdaoaddaaGreatDoorCoPkC
import Derived.Maps.AppendAt
import Derived.Deep.DeepCutAuto
import Derived.Test.YtppinnjdaoaddaaGreatDoorCoPkA
set_option linter.unusedVariables false
namespace Go.Proofs.YtppinnjdaoaddaaGreatDoor.NoS
open Go.RowKit

/-- Nothing that was there has turned. -/
def Keeps (_ : Nat) (w w' : World) : Prop := Below w.heap.size w w'
def StreamOk (_ : World) (_ _ : Nat) : Prop := True
theorem Keeps.below {S : Nat} {w w' : World} (h : Keeps S w w') : Below w.heap.size w w' := h
theorem Keeps.size {S : Nat} {w w' : World} (h : Keeps S w w') : w.heap.size ≤ w'.heap.size := Below.size h
theorem Keeps.refl (S : Nat) (w : World) : Keeps S w w := Below.refl _ _
theorem Keeps.trans {S : Nat} {a b c : World} (h : Keeps S a b) (k : Keeps S b c) : Keeps S a c := ext_trans h k
theorem Keeps.alloc {S : Nat} {a w : World} (h : Keeps S a w) (o : Obj) : Keeps S a (w.alloc o) := ext_alloc h
theorem Keeps.cell {S : Nat} {w w' : World} (h : Keeps S w w') {p : Addr} (hp : p.block < w.heap.size) : w'.cell? p = w.cell? p := Below.cell h hp
theorem Keeps.frozen {S : Nat} {w w' : World} (h : Keeps S w w') {p : Addr} (hp : p.block < w.heap.size) : w'.frozen? p = w.frozen? p := Below.frozen h hp
theorem Keeps.of_below {S : Nat} {w w' : World} (h : Below w.heap.size w w') : Keeps S w w' := h
theorem StreamOk.below {w w' : World} {S k : Nat} (h : StreamOk w S k) (b : Below w.heap.size w w') : StreamOk w' S k := trivial
theorem StreamOk.mono {w : World} {S k k' : Nat} (h : StreamOk w S k) (hk : k ≤ k') : StreamOk w S k' := trivial

section
variable {P : Program} {ops : Array Oper} {Q : Exit → Act → World → Prop}

/-- What is known of an operation's value: a property of the value; or a slice over a block of its own, whose cells are listed. -/
inductive Spec where
  | val (p : Value → Prop)
  | arr (n : Nat) (p : List Value → Prop)
  | mem (p : World → Value → Prop)

def Spec.holds (S : Nat) (w : World) : Spec → Value → Prop
  | .val p, v => p v
  | .arr n p, v => ∃ b vs, v = .slice (some ⟨b, 0, none⟩) n n ∧ p vs ∧ b < w.heap.size ∧ ∀ (j : Nat) (u : Value), vs[j]? = some u → w.cell? ⟨b, j, none⟩ = some u
  | .mem p, v => ∀ w', Keeps S w w' → p w' v

theorem Spec.holds.keeps {S : Nat} {w w' : World} {s : Spec} {v : Value} (h : s.holds S w v) (k : Keeps S w w') : s.holds S w' v := by
  cases s with
  | val p => exact h
  | arr n p =>
    obtain ⟨b, vs, hv, hp, hl, hc⟩ := h
    exact ⟨b, vs, hv, hp, Nat.lt_of_lt_of_le hl k.size, fun j u hj => (k.cell (p := ⟨b, j, none⟩) hl).trans (hc j u hj)⟩
  | mem p => exact fun w'' k' => h w'' (k.trans k')

def GenB (S k : Nat) (w0 : World) (c : Nat) (w : World) : Prop := Keeps S w0 w ∧ StreamOk w S (k + c)

/-- What is to be shown of operation i: it may look at what it waits for, and at what was there. -/
def GenStep (P : Program) (ops : Array Oper) (Q : Exit → Act → World → Prop) (a0 : Act) (S k : Nat) (w0 : World) (specs : List Spec) (total : Nat) (calls : List Nat) (i : Nat) : Prop :=
  ∀ (o : Oper) (s : Spec) (a : Act) (w : World) (c : Nat), ops[i]? = some o → specs[i]? = some s → Keeps S w0 w → StreamOk w S (k + c) → c + (if calls.contains i then 1 else 0) ≤ total →
    (∀ t, (∀ j, dstOf ops j ≠ some t) → a.eval (.tmp t) = a0.eval (.tmp t)) →
    (∀ e ∈ o.after, Region.binds .any e = true → ∀ t s', dstOf ops e.on = some t → specs[e.on]? = some s' → s'.holds S w (a.eval (.tmp t))) →
    ∀ K : Act → World → Prop, (∀ v w', s.holds S w' v → Keeps S w w' → StreamOk w' S (k + (c + if calls.contains i then 1 else 0)) → K (a.put o.dst v) w') → Oper.wp P o a w K Q

/-- The operations' temporaries are different ones and lie in the frame; the first ones have no guard and each a spec. -/
def genChk (ops : Array Oper) (size m : Nat) (calls : List Nat) : Bool :=
  ((List.range ops.size).all fun i => (List.range ops.size).all fun j => i == j || (match dstOf ops i with | none => true | some d => decide (d < size) && dstOf ops j != some d)) &&
  ((List.range m).all fun i => ((ops[i]?).map fun o => o.guard.isNone).getD false) && decide (m ≤ ops.size) && decide (1 < ops.size) && decide calls.Nodup && calls.all (fun i => decide (i < m))

theorem countP_set (calls : List Nat) (hn : calls.Nodup) (f : Nat → Bool) (i : Nat) (hu : f i = false) : calls.countP (fun j => if j = i then true else f j) = calls.countP f + if calls.contains i then 1 else 0 := by
  induction calls with
  | nil => simp
  | cons x xs ih =>
    have ih := ih (List.nodup_cons.1 hn).2
    have hx := (List.nodup_cons.1 hn).1
    by_cases hxi : x = i
    · subst hxi
      have : xs.countP (fun j => if j = x then true else f j) = xs.countP f := by
        refine List.countP_congr fun j hj => ?_
        have : j ≠ x := fun e => hx (e ▸ hj)
        simp [this]
      rw [List.countP_cons, this, List.countP_cons]
      simp [hu]
    · have hc : (x :: xs).contains i = xs.contains i := by simp [Ne.symm hxi]
      rw [hc, List.countP_cons, List.countP_cons, ih]
      simp [hxi]
      omega

theorem gen_any {m : Nat} {a0 : Act} {S k : Nat} {w0 : World} {specs : List Spec} {calls : List Nat} (hc : genChk ops a0.tmps.size m calls = true) (hlen : specs.length = m)
    (hstep : ∀ i, i < m → GenStep P (ops.extract 0 m) Q a0 S k w0 specs calls.length calls i)
    (hend : ∀ (vals : Nat → Value) (w : World), Keeps S w0 w → StreamOk w S (k + calls.length) → (∀ (i : Nat) (s : Spec), specs[i]? = some s → s.holds S w (vals i)) → Q .normal (putSome (ops.extract 0 m) vals (fun _ => true) (List.range m) a0) w) :
    ∀ (fuel : Nat) (l : Array Bool) (vals : Nat → Value) (w : World), l.size = m → Keeps S w0 w → StreamOk w S (k + calls.countP (fun i => l.getD i true)) → (∀ (i : Nat) (s : Spec), l.getD i true = true → specs[i]? = some s → s.holds S w (vals i)) → (l.toList.countP (fun b => !b) ≤ fuel) →
      (∀ i, i < m → ∃ o, (ops.extract 0 m)[i]? = some o ∧ ∀ e ∈ o.after, Region.binds .any e = true → e.on < i) →
      wpAny P .any (ops.extract 0 m) Q fuel l (putSome (ops.extract 0 m) vals (fun i => l.getD i true) (List.range m) a0) w := by
  simp only [genChk, Bool.and_eq_true, List.all_eq_true, List.mem_range, decide_eq_true_eq, Bool.or_eq_true, beq_iff_eq] at hc
  obtain ⟨⟨⟨⟨⟨hdst, hgd⟩, hmn⟩, h1n⟩, hnd⟩, hcm⟩ := hc
  have dsub : ∀ i t, dstOf (ops.extract 0 m) i = some t → dstOf ops i = some t ∧ i < m := by
    intro i t h
    unfold dstOf at *
    by_cases hi : i < m
    · rw [ext_get _ _ _ hi] at h
      exact ⟨h, hi⟩
    · rw [ext_get_no _ _ _ hi] at h; cases h
  have dne : ∀ i j, i ≠ j → ∀ t, dstOf (ops.extract 0 m) j = some t → dstOf (ops.extract 0 m) i ≠ some t := by
    intro i j hij t hj hi
    obtain ⟨hi1, hi2⟩ := dsub i t hi
    obtain ⟨hj1, hj2⟩ := dsub j t hj
    have := (hdst i (by omega) j (by omega)).resolve_left hij
    simp [hi1, hj1] at this
  have dlt : ∀ i t, dstOf (ops.extract 0 m) i = some t → t < a0.tmps.size := by
    intro i t hi
    obtain ⟨hi1, hi2⟩ := dsub i t hi
    have hj : ∃ j, j < ops.size ∧ i ≠ j := if h : i = 0 then ⟨1, by omega, by omega⟩ else ⟨0, by omega, h⟩
    obtain ⟨j, hj, hij⟩ := hj
    have := (hdst i (by omega) j hj).resolve_left hij
    simp [hi1] at this
    exact this.1
  have getl : ∀ (l : Array Bool) i, i < l.size → l.getD i true = true → l.getD i false = true := fun l i hi h => by rw [getD_two hi false true]; exact h
  intro fuel
  induction fuel with
  | zero =>
    intro l vals w hl hk hst hs hf hdown
    have hall : ∀ i, i < m → l.getD i true = true := by
      intro i hi
      rcases Bool.eq_false_or_eq_true (l.getD i true) with h | h
      · exact h
      · exfalso
        have : 0 < l.toList.countP (fun b => !b) := List.countP_pos_iff.2 ⟨false, by
          have hlt : i < l.size := by omega
          have : l[i] = false := by simpa [hlt] using h
          rw [← this]; simp, rfl⟩
        omega
    refine ⟨?_, ?_⟩
    · refine List.eq_nil_iff_forall_not_mem.2 fun i hi => ?_
      obtain ⟨h0, o, ho, _⟩ := mem_ready.1 hi
      have hlt : i < m := by have := (Array.getElem?_eq_some_iff.1 ho).1; simp at this; omega
      rw [hall i hlt] at h0; cases h0
    · have e1 : putSome (ops.extract 0 m) vals (fun i => l.getD i true) (List.range m) a0 = putSome (ops.extract 0 m) vals (fun _ => true) (List.range m) a0 := putSome_congr _ _ (fun i hi => ⟨hall i (List.mem_range.1 hi), fun _ => rfl⟩)
      rw [e1]
      refine hend vals w hk ?_ (fun i s h => hs i s (by
        by_cases hi : i < m
        · exact hall i hi
        · simp [show ¬ i < l.size by omega]) h)
      have : calls.countP (fun i => l.getD i true) = calls.length := List.countP_eq_length.2 (fun i hi => hall i (by simpa using hcm i hi))
      rw [this] at hst; exact hst
  | succ fuel ih =>
    intro l vals w hl hk hst hs hf hdown
    have dn := listed_of_none (ops := ops.extract 0 m) (m := m)
    refine ⟨fun h0 => ?_, fun i hi => ?_⟩
    · have hall : ∀ i, i < m → l.getD i true = true := by
        intro i
        induction i using Nat.strongRecOn with
        | _ i ihi =>
          intro hi
          rcases Bool.eq_false_or_eq_true (l.getD i true) with h | h
          · exact h
          · exfalso
            obtain ⟨o, ho, hd⟩ := hdown i hi
            have : i ∈ Region.ready .any (ops.extract 0 m) l := mem_ready.2 ⟨h, o, ho, fun e he hb => getl l _ (by have := hd e he hb; omega) (ihi e.on (hd e he hb) (by have := hd e he hb; omega))⟩
            rw [h0] at this; cases this
      have e1 : putSome (ops.extract 0 m) vals (fun i => l.getD i true) (List.range m) a0 = putSome (ops.extract 0 m) vals (fun _ => true) (List.range m) a0 := putSome_congr _ _ (fun i hi => ⟨hall i (List.mem_range.1 hi), fun _ => rfl⟩)
      rw [e1]
      refine hend vals w hk ?_ (fun i s h => hs i s (by
        by_cases hi : i < m
        · exact hall i hi
        · simp [show ¬ i < l.size by omega]) h)
      have : calls.countP (fun i => l.getD i true) = calls.length := List.countP_eq_length.2 (fun i hi => hall i (by simpa using hcm i hi))
      rw [this] at hst; exact hst
    · obtain ⟨hun, o, ho, hall⟩ := mem_ready.1 hi
      have him : i < m := by have := (Array.getElem?_eq_some_iff.1 ho).1; simp at this; omega
      have hilt : i < l.size := by omega
      obtain ⟨s, hsi⟩ : ∃ s, specs[i]? = some s := ⟨specs[i]'(by omega), by simp⟩
      have hguard : o.guard = none := by
        have hx := hgd i him
        have : ops[i]? = some o := by rw [ext_get _ _ _ him] at ho; exact ho
        simpa [this] using hx
      have hdo : dstOf (ops.extract 0 m) i = o.dst := by simp [dstOf, ho]
      unfold wpOp
      simp only [ho]
      rw [if_pos (by simp [Region.wanted, hguard])]
      refine Or.inl ?_
      have hcnt := countP_set calls hnd (fun j => l.getD j true) i hun
      refine hstep i him o s _ w (calls.countP fun j => l.getD j true) ho hsi hk hst ?_ ?_ ?_ _ ?_
      · rw [← hcnt]; exact List.countP_le_length
      · intro t ht
        exact putSome_eval_other _ _ (fun j _ => ht j)
      · intro e he hb t s' ht hs'
        have hon := hall e he hb
        have hlt : e.on < m := (dsub e.on t ht).2
        have hon' : l.getD e.on true = true := by rw [getD_two (by omega) true false]; exact hon
        rw [putSome_eval (i := e.on) _ _ List.nodup_range (List.mem_range.2 hlt) hon' ht (dlt _ _ ht) (fun j _ hj => fun h2 => dne e.on j (Ne.symm hj) t h2 ht)]
        exact hs e.on s' hon' hs'
      · intro v w' hv hkw hst'
        have e2 := putSome_set (ops := ops.extract 0 m) (vals := vals) (listed := fun j => l.getD j true) (i := i) v (List.range m) a0 List.nodup_range (List.mem_range.2 him) hun (fun j _ hj t ht => dne i j (Ne.symm hj) t ht)
        have e3 : (fun j => if j = i then true else l.getD j true) = fun j => (l.setIfInBounds i true).getD j true := by
          funext j
          by_cases hji : j = i
          · subst hji; simp [hilt]
          · simp only [hji, if_false]; rw [getD_set_ne true (Ne.symm hji)]
        rw [← hdo, ← e2, e3]
        refine ih _ _ w' (by simpa using hl) (hk.trans hkw) ?_ ?_ ?_ hdown
        · rw [← e3, hcnt]; exact hst'
        · intro j s' hj hs'
          by_cases hji : j = i
          · subst hji
            rw [hsi] at hs'; cases hs'
            simp only [if_true]; exact hv
          · simp only [hji, if_false]
            rw [getD_set_ne true (Ne.symm hji)] at hj
            exact (hs j s' hj hs').keeps hkw
        · have : (l.setIfInBounds i true).toList.countP (fun b => !b) + 1 = l.toList.countP (fun b => !b) := by
            have hli : l[i] = false := by simpa [hilt] using hun
            have hpos : 0 < l.toList.countP (fun b => !b) := List.countP_pos_iff.2 ⟨false, by rw [← hli]; simp, rfl⟩
            have := List.countP_set (p := fun b : Bool => !b) (l := l.toList) (i := i) (a := true) (by simpa using hilt)
            have e4 : l.toList[i]'(by simpa using hilt) = false := by simpa using hli
            rw [Array.toList_setIfInBounds, this, e4]
            rw [if_pos (by decide : (!false) = true), if_neg (by decide : ¬ (!true) = true)]
            omega
          omega

/-! ### The whole -/

/-- What is to be shown of an operation: it may look at what it waits for, and at what was there. -/
def GenOp (P : Program) (ops : Array Oper) (Q : Exit → Act → World → Prop) (a0 : Act) (S k : Nat) (w0 : World) (specs : List Spec) (calls : List Nat) (i : Nat) (o : Oper) (s : Spec) : Prop :=
  ∀ (a : Act) (w : World) (c : Nat), Keeps S w0 w → StreamOk w S (k + c) → c + (if calls.contains i then 1 else 0) ≤ calls.length →
    (∀ t, ((ops.extract 0 specs.length).all fun o => o.dst != some t) = true → a.eval (.tmp t) = a0.eval (.tmp t)) →
    (∀ (j : Nat) (t : Tmp) (s' : Spec), (o.after.any fun e => Region.binds .any e && e.on == j) = true → dstOf ops j = some t → specs[j]? = some s' → s'.holds S w (a.eval (.tmp t))) →
    ∀ K : Act → World → Prop, (∀ v w', s.holds S w' v → Keeps S w w' → StreamOk w' S (k + (c + if calls.contains i then 1 else 0)) → K (a.put o.dst v) w') → Oper.wp P o a w K (tailQ P ops Q specs.length)

def GenOps (P : Program) (ops : Array Oper) (Q : Exit → Act → World → Prop) (a0 : Act) (S k : Nat) (w0 : World) (specs : List Spec) (calls : List Nat) : Nat → List Oper → List Spec → Prop
  | i, o :: os, s :: ss => GenOp P ops Q a0 S k w0 specs calls i o s ∧ GenOps P ops Q a0 S k w0 specs calls (i + 1) os ss
  | _, _, _ => True

/-- For all values that the specs allow, put into the frame. -/
def ForVals (S : Nat) (w : World) (K : Act → Prop) : List (Option Tmp) → List Spec → Act → Prop
  | d :: ds, s :: ss, a => ∀ v, s.holds S w v → ForVals S w K ds ss (a.put d v)
  | _, _, a => K a

def downChk (ops : Array Oper) (m : Nat) : Bool := (List.range m).all fun i => ((ops[i]?).map fun o => o.after.all fun e => !Region.binds .any e || decide (e.on < i)).getD false

theorem genOps_at {a0 : Act} {S k : Nat} {w0 : World} {specs : List Spec} {calls : List Nat} : ∀ (i : Nat) (os : List Oper) (ss : List Spec), GenOps P ops Q a0 S k w0 specs calls i os ss → ∀ (j : Nat) (o : Oper) (s : Spec), os[j]? = some o → ss[j]? = some s → GenOp P ops Q a0 S k w0 specs calls (i + j) o s
  | i, o :: os, s :: ss, h, 0, _, _, ho, hs => by simp at ho hs; subst ho; subst hs; exact h.1
  | i, o :: os, s :: ss, h, j + 1, o', s', ho, hs => by
    have := genOps_at (i + 1) os ss h.2 j o' s' (by simpa using ho) (by simpa using hs)
    rw [show i + (j + 1) = i + 1 + j by omega]; exact this
  | i, [], _, _, j, _, _, ho, _ => by simp at ho
  | i, _ :: _, [], _, j, _, _, _, hs => by simp at hs

theorem forVals_all {S : Nat} {w : World} {K : Act → Prop} {vals : Nat → Value} {ops : Array Oper} : ∀ (ss : List Spec) (i : Nat) (a : Act), ForVals S w K ((List.range' i ss.length).map (dstOf ops)) ss a → (∀ (j : Nat) (s : Spec), ss[j]? = some s → s.holds S w (vals (i + j))) → K (putSome ops vals (fun _ => true) (List.range' i ss.length) a)
  | [], i, a, h, _ => h
  | s :: ss, i, a, h, hs => by
    have h1 : ForVals S w K ((List.range' (i + 1) ss.length).map (dstOf ops)) ss (a.put (dstOf ops i) (vals i)) := h (vals i) (hs 0 s rfl)
    have := forVals_all ss (i + 1) _ h1 (fun j s' hj => by have := hs (j + 1) s' (by simpa using hj); rwa [show i + (j + 1) = i + 1 + j by omega] at this)
    exact this

/-- **A region that draws its order, in which a stream hands out numbers**: shown for all orders at once; what comes behind the first operations goes in the text's order. -/
theorem region_gen {L : List Oper} {id : Nat} {a0 : Act} {w : World} (S k m : Nat) (specs : List Spec) (calls : List Nat) (ds : List (Option Tmp)) (hm : P.follows .mixedOrders = true) (hc : genChk L.toArray a0.tmps.size m calls = true) (ht : tailChk L.toArray m = true) (hd : downChk L.toArray m = true) (hlen : specs.length = m)
    (hds : (List.range m).map (dstOf L.toArray) = ds) (h0 : StreamOk w S k)
    (hstep : GenOps P L.toArray Q a0 S k w.drew specs calls 0 (L.take m) specs)
    (hend : ∀ w', Keeps S w.drew w' → StreamOk w' S (k + calls.length) → ForVals S w' (fun a => wpList P L.toArray Q (L.drop m) a w') ds specs a0) : (Code.region id L.toArray true).wp P Q a0 w := by
  subst hlen
  have hc0 := hc
  simp only [genChk, Bool.and_eq_true, List.all_eq_true, List.mem_range, decide_eq_true_eq] at hc0
  obtain ⟨⟨⟨⟨⟨_, hgd⟩, hmn⟩, h1n⟩, hnd⟩, hcm⟩ := hc0
  have hmn' : specs.length ≤ L.length := by simpa using hmn
  have hdown : ∀ i, i < specs.length → ∃ o, (L.toArray.extract 0 specs.length)[i]? = some o ∧ ∀ e ∈ o.after, Region.binds .any e = true → e.on < i := by
    intro i hi
    have h := List.all_eq_true.1 hd i (List.mem_range.2 hi)
    rw [ext_get _ _ _ hi]
    cases ho : L.toArray[i]? with
    | none => rw [ho] at h; cases h
    | some o =>
      rw [ho] at h
      simp only [Option.map_some, Option.getD_some] at h
      refine ⟨o, rfl, fun e he hb => ?_⟩
      have h1 := Array.all_eq_true_iff_forall_mem.1 h e he
      simpa [hb] using h1
  have tailNone : ∀ (k' : Nat) (o : Oper), specs.length ≤ k' → L.toArray[k']? = some o → o.guard = none := by
    intro k' o hk' ho
    have hlt := (Array.getElem?_eq_some_iff.1 ho).1
    have h := List.all_eq_true.1 ht k' (List.mem_range.2 hlt)
    simp only [Bool.or_eq_true, decide_eq_true_eq, Bool.and_eq_true] at h
    have h2 := (h.resolve_left (by omega)).2
    rw [ho] at h2
    simpa using h2
  have toTail : ∀ (l : List Oper), (∀ o ∈ l, o.guard = none) → ∀ a w, wpList P L.toArray Q l a w → tailQ.wpTail P Q l a w := by
    intro l
    induction l with
    | nil => intro _ a w h; exact h
    | cons o l ih =>
      intro hg a w h
      unfold wpList at h
      rw [if_pos (by simp [Region.wanted, hg o List.mem_cons_self])] at h
      exact h.imp (Oper.wp_mono (fun a w h => ih (fun o ho => hg o (List.mem_cons_of_mem _ ho)) a w h)) (fun h => h)
  refine wp_region_any hm ?_
  refine tail_any specs.length ht (L.length - specs.length) specs.length (by simp; omega) (Nat.le_refl _) a0 _ ?_
  have dEq : ∀ j, j < specs.length → dstOf (L.toArray.extract 0 specs.length) j = dstOf L.toArray j := fun j hj => by unfold dstOf; rw [ext_get _ _ _ hj]
  have dLt : ∀ j t, dstOf (L.toArray.extract 0 specs.length) j = some t → j < specs.length := fun j t h => by
    rcases Nat.lt_or_ge j specs.length with h' | h'
    · exact h'
    · unfold dstOf at h; rw [ext_get_no _ _ _ (by omega)] at h; cases h
  have g := gen_any (P := P) (ops := L.toArray) (Q := tailQ P L.toArray Q specs.length) (m := specs.length) (a0 := a0) (S := S) (k := k) (w0 := w.drew) (specs := specs) (calls := calls) hc rfl ?_ ?_ specs.length (Array.replicate specs.length false) (fun _ => undef) w.drew (by simp) (Keeps.refl _ _) ?_ ?_ ?_ hdown
  · have e0 : putSome (L.toArray.extract 0 specs.length) (fun _ => undef) (fun i => (Array.replicate specs.length false).getD i true) (List.range specs.length) a0 = a0 := by
      have : ∀ (l : List Nat), (∀ i ∈ l, i < specs.length) → ∀ a, putSome (L.toArray.extract 0 specs.length) (fun _ => undef) (fun i => (Array.replicate specs.length false).getD i true) l a = a := by
        intro l
        induction l with
        | nil => intro _ a; rfl
        | cons j l ih =>
          intro hl a
          have hj := hl j List.mem_cons_self
          have ih' := ih (fun i hi => hl i (List.mem_cons_of_mem _ hi))
          simp only [putSome, List.foldl_cons] at ih' ⊢
          rw [show (Array.replicate specs.length false).getD j true = false by simp [hj]]
          exact ih' a
      exact this _ (fun i hi => List.mem_range.1 hi) a0
    rw [e0] at g
    exact g
  · intro i hi o s a w' c ho hs hk hst hcc hfr hdp K hK
    have hoL : L[i]? = some o := by rw [ext_get _ _ _ hi] at ho; simpa using ho
    have st := genOps_at 0 _ _ hstep i o s (by rw [List.getElem?_take_of_lt hi]; exact hoL) hs
    rw [Nat.zero_add] at st
    refine st a w' c hk hst hcc (fun t ht => hfr t (fun j hj => ?_)) (fun j t s' hj ht hs' => ?_) K hK
    · unfold dstOf at hj
      cases hoj : (L.toArray.extract 0 specs.length)[j]? with
      | none => rw [hoj] at hj; cases hj
      | some oj =>
        rw [hoj] at hj
        have := Array.all_eq_true_iff_forall_mem.1 ht oj (Array.mem_of_getElem? hoj)
        simp at this hj
        exact this hj
    · obtain ⟨e, he, hb⟩ := Array.any_eq_true'.1 hj
      simp only [Bool.and_eq_true, beq_iff_eq] at hb
      obtain ⟨hb, rfl⟩ := hb
      have hlt : e.on < specs.length := (List.getElem?_eq_some_iff.1 hs').1
      exact hdp e he hb t s' (by rw [dEq _ hlt]; exact ht) hs'
  · intro vals w' hk hst hs
    have h := hend w' hk hst
    subst hds
    have e1 : putSome (L.toArray.extract 0 specs.length) vals (fun _ => true) (List.range specs.length) a0 = putSome L.toArray vals (fun _ => true) (List.range specs.length) a0 := by
      have : ∀ (l : List Nat), (∀ i ∈ l, i < specs.length) → ∀ a, putSome (L.toArray.extract 0 specs.length) vals (fun _ => true) l a = putSome L.toArray vals (fun _ => true) l a := by
        intro l
        induction l with
        | nil => intro _ a; rfl
        | cons j l ih =>
          intro hl a
          have ih' := ih (fun i hi => hl i (List.mem_cons_of_mem _ hi))
          simp only [putSome, List.foldl_cons] at ih' ⊢
          rw [dEq j (hl j List.mem_cons_self)]
          exact ih' _
      exact this _ (fun i hi => List.mem_range.1 hi) a0
    rw [e1]
    have h2 := forVals_all (S := S) (w := w') (vals := vals) (ops := L.toArray) (K := fun a => wpList P L.toArray Q (L.drop specs.length) a w') specs 0 a0 (by rw [← List.range_eq_range']; exact h) (fun j s hj => by rw [Nat.zero_add]; exact hs j s hj)
    rw [← List.range_eq_range'] at h2
    refine toTail _ (fun o ho => ?_) _ _ h2
    obtain ⟨j, hj⟩ := List.getElem?_of_mem ho
    rw [List.getElem?_drop] at hj
    exact tailNone _ o (Nat.le_add_right _ _) (by simpa using hj)
  · have : calls.countP (fun i => (Array.replicate specs.length false).getD i true) = 0 := List.countP_eq_zero.2 (fun i hi => by
      have := hcm i hi
      simp [this])
    rw [this]
    exact h0
  · intro i s h hs
    have hlt := (List.getElem?_eq_some_iff.1 hs).1
    simp [hlt] at h
  · exact Nat.le_trans List.countP_le_length (by simp)

theorem own_slice {w : World} {base : Nat} {e : TypeId} {size : Nat} {v : Value} {n : Nat} {xs : List Value} (h : w.ownsRow base e size v n xs) : ∃ a c, v = .slice a n c := by
  rcases h.2 with ⟨rfl, rfl⟩ | ⟨g, cap, cur, rfl, _⟩
  · exact ⟨none, 0, rfl⟩
  · exact ⟨_, _, rfl⟩
theorem addr_add0 (b j : Nat) : (⟨b, 0, none⟩ : Addr).add j = ⟨b, j, none⟩ := by unfold Addr.add; split <;> simp_all

/-! ### One operation -/
/-- A new block with such cells. -/
theorem gen_alloc {o : Oper} {a : Act} {w : World} {K : Act → World → Prop} {S k n : Nat} {p : List Value → Prop} (cs : Array Value) (ty : TypeId) (h : (execOp a.eval o).run P w = .ok (.value (.slice (some ⟨w.heap.size, 0, none⟩) n n)) (w.alloc (.cells cs ty))) (hp : p cs.toList) (hst : StreamOk w S k)
    (hK : ∀ v w', (Spec.arr n p).holds S w' v → Keeps S w w' → StreamOk w' S k → K (a.put o.dst v) w') : Oper.wp P o a w K Q := by
  unfold Oper.wp; rw [h]
  refine hK _ _ ⟨w.heap.size, cs.toList, rfl, hp, by simp, fun j u hj => ?_⟩ ((Keeps.refl S w).alloc _) (hst.below (ext_alloc (Below.refl _ _)))
  · simpa using hj
/-- A call of a Go function, whose arguments are known. -/
theorem gen_call {o : Oper} {a : Act} {w : World} {K : Act → World → Prop} {R : Ending → World → Prop} (f : Nat) (vs : Array Value) (h : (execOp a.eval o).run P w = .ok (.enter f vs) w) (hc : Calls P f vs w R) (hR : ∀ e w', R e w' → ∃ v, e = .returned v ∧ K (a.put o.dst v) w') : Oper.wp P o a w K Q := by
  unfold Oper.wp; rw [h]
  refine Calls.mono hc fun e w' he => ?_
  obtain ⟨v, rfl, hk⟩ := hR e w' he
  exact hk
theorem gen_pure {o : Oper} {a : Act} {w : World} {K : Act → World → Prop} {v : Value} (h : (execOp a.eval o).run P w = .ok (.value v) w) (hK : K (a.put o.dst v) w) : Oper.wp P o a w K Q := by
  unfold Oper.wp; rw [h]; exact hK
end
section
variable {P : Program} {ops : Array Oper} {Q : Exit → Act → World → Prop}

/-- What is to be shown of an operation: it may look at what it waits for, and at what was there. A call hands out at most W numbers. -/
def LateOp (P : Program) (ops : Array Oper) (Q : Exit → Act → World → Prop) (a0 : Act) (S k W : Nat) (w0 : World) (specs : List Spec) (calls : List Nat) (i : Nat) (o : Oper) (s : Spec) : Prop :=
  ∀ (a : Act) (w : World) (c : Nat), Keeps S w0 w → StreamOk w S (k + W * c) → c + (if calls.contains i then 1 else 0) ≤ calls.length →
    (∀ t, ((ops.extract 0 specs.length).all fun o => o.dst != some t) = true → a.eval (.tmp t) = a0.eval (.tmp t)) →
    (∀ (j : Nat) (t : Tmp) (s' : Spec), (o.after.any fun e => Region.binds .any e && e.on == j) = true → dstOf ops j = some t → specs[j]? = some s' → s'.holds S w (a.eval (.tmp t))) →
    ∀ K : Act → World → Prop, (∀ v w', s.holds S w' v → Keeps S w w' → StreamOk w' S (k + W * (c + if calls.contains i then 1 else 0)) → K (a.put o.dst v) w') → Oper.wp P o a w K Q
def LateOps (P : Program) (ops : Array Oper) (Q : Exit → Act → World → Prop) (a0 : Act) (S k W : Nat) (w0 : World) (specs : List Spec) (calls : List Nat) : Nat → List Oper → List Spec → Prop
  | i, o :: os, s :: ss => LateOp P ops Q a0 S k W w0 specs calls i o s ∧ LateOps P ops Q a0 S k W w0 specs calls (i + 1) os ss
  | _, _, _ => True
theorem lateOps_at {a0 : Act} {S k W : Nat} {w0 : World} {specs : List Spec} {calls : List Nat} : ∀ (i : Nat) (os : List Oper) (ss : List Spec), LateOps P ops Q a0 S k W w0 specs calls i os ss → ∀ (j : Nat) (o : Oper) (s : Spec), os[j]? = some o → ss[j]? = some s → LateOp P ops Q a0 S k W w0 specs calls (i + j) o s
  | i, o :: os, s :: ss, h, 0, _, _, ho, hs => by simp at ho hs; subst ho; subst hs; exact h.1
  | i, o :: os, s :: ss, h, j + 1, o', s', ho, hs => by
    have := lateOps_at (i + 1) os ss h.2 j o' s' (by simpa using ho) (by simpa using hs)
    rw [show i + (j + 1) = i + 1 + j by omega]; exact this
  | i, [], _, _, j, _, _, ho, _ => by simp at ho
  | i, _ :: _, [], _, j, _, _, _, hs => by simp at hs

/-- Operation m waits, through others, for all ahead of it but number d: each of those is waited for by one behind it, up to m, that is not d. -/
def lateChk (ops : Array Oper) (m d : Nat) : Bool :=
  ((List.range m).all fun i => i == d || (List.range (m + 1)).any fun k => decide (i < k) && k != d && ((ops[k]?).map fun o => o.after.any fun e => Region.binds .any e && e.on == i).getD false) && decide (d < m)

theorem late_listed {m d : Nat} (hc : lateChk ops m d = true) {l : Array Bool} (hl : l.size = m + 1) (hcl : ClosedL ops l) {om : Oper} (hom : ops[m]? = some om) (hall : ∀ e ∈ om.after, Region.binds .any e = true → l.getD e.on false = true) : ∀ i, i < m → i ≠ d → l.getD i true = true := by
  simp only [lateChk, Bool.and_eq_true, List.all_eq_true, List.any_eq_true, List.mem_range, decide_eq_true_eq, Bool.or_eq_true, beq_iff_eq, bne_iff_ne] at hc
  have main : ∀ n i, i < m → i ≠ d → m - i ≤ n → l.getD i false = true := by
    intro n
    induction n with
    | zero => intro i hi _ h; omega
    | succ n ih =>
      intro i hi hne h
      obtain ⟨k, hk, ⟨hik, hkd⟩, hk2⟩ := (hc.1 i hi).resolve_left hne
      cases ho : ops[k]? with
      | none => simp [ho] at hk2
      | some o =>
        simp only [ho, Option.map_some, Option.getD_some] at hk2
        obtain ⟨e, he, hb⟩ := Array.any_eq_true'.1 hk2
        simp only [Bool.and_eq_true, beq_iff_eq] at hb
        rcases Nat.lt_or_ge k m with hkm | hkm
        · rw [← hb.2]; exact hcl k o ho (ih k hkm hkd (by omega)) e he hb.1
        · obtain rfl : k = m := by omega
          rw [hom] at ho; cases ho
          rw [← hb.2]; exact hall e he hb.1
  intro i hi hne
  rw [getD_two (by omega) true false]
  exact main (m - i) i hi hne (Nat.le_refl _)

/-- Operation m waits, through others, for all ahead of it. -/
def lateAll (ops : Array Oper) (m : Nat) : Bool :=
  (List.range m).all fun i => (List.range (m + 1)).any fun k => decide (i < k) && ((ops[k]?).map fun o => o.after.any fun e => Region.binds .any e && e.on == i).getD false
theorem allW_listed {m : Nat} (hc : lateAll ops m = true) {l : Array Bool} (hl : l.size = m + 1) (hcl : ClosedL ops l) {om : Oper} (hom : ops[m]? = some om) (hall : ∀ e ∈ om.after, Region.binds .any e = true → l.getD e.on false = true) : ∀ i, i < m → l.getD i true = true := by
  simp only [lateAll, Bool.and_eq_true, List.all_eq_true, List.any_eq_true, List.mem_range, decide_eq_true_eq] at hc
  have main : ∀ n i, i < m → m - i ≤ n → l.getD i false = true := by
    intro n
    induction n with
    | zero => intro i hi h; omega
    | succ n ih =>
      intro i hi h
      obtain ⟨k, hk, hik, hk2⟩ := hc i hi
      cases ho : ops[k]? with
      | none => simp [ho] at hk2
      | some o =>
        simp only [ho, Option.map_some, Option.getD_some] at hk2
        obtain ⟨e, he, hb⟩ := Array.any_eq_true'.1 hk2
        simp only [Bool.and_eq_true, beq_iff_eq] at hb
        rcases Nat.lt_or_ge k m with hkm | hkm
        · rw [← hb.2]; exact hcl k o ho (ih k hkm (by omega)) e he hb.1
        · obtain rfl : k = m := by omega
          rw [hom] at ho; cases ho
          rw [← hb.2]; exact hall e he hb.1
  intro i hi
  rw [getD_two (by omega) true false]
  exact main (m - i) i hi (Nat.le_refl _)

theorem gen_late {m d W : Nat} {a0 : Act} {S k : Nat} {w0 : World} {specs : List Spec} {calls : List Nat} {st od : Oper} (hsz : ops.size = m + 1) (hc : genChk ops a0.tmps.size m calls = true) (hlen : specs.length = m) (hst : ops[m]? = some st) (hsg : st.guard = none) (hod : ops[d]? = some od) (hlate : lateChk ops m d = true) (hdc : d ∉ calls)
    (hdown : ∀ i, i < m + 1 → ∃ o, ops[i]? = some o ∧ ∀ e ∈ o.after, Region.binds .any e = true → e.on < i)
    (hstep : ∀ i o s, i < m → ops[i]? = some o → specs[i]? = some s → LateOp P ops Q a0 S k W w0 specs calls i o s)
    (hA : ∀ (vals : Nat → Value) (w : World), Keeps S w0 w → StreamOk w S (k + W * calls.length) → (∀ (i : Nat) (s : Spec), specs[i]? = some s → s.holds S w (vals i)) → lastQ P st Q .normal (putSome ops vals (fun _ => true) (List.range m) a0) w)
    (hB : lateAll ops m = false → ∀ (vals : Nat → Value) (w : World), Keeps S w0 w → StreamOk w S (k + W * calls.length) → (∀ (i : Nat) (s : Spec), i ≠ d → specs[i]? = some s → s.holds S w (vals i)) → lastQ P st (lastQ P od Q) .normal (putSome ops vals (fun i => i != d) (List.range m) a0) w) :
    ∀ (fuel : Nat) (l : Array Bool) (vals : Nat → Value) (w : World), l.size = m + 1 → l.getD m true = false → ClosedL ops l → Keeps S w0 w → StreamOk w S (k + W * calls.countP (fun i => l.getD i true)) → (∀ (i : Nat) (s : Spec), l.getD i true = true → specs[i]? = some s → s.holds S w (vals i)) → (l.toList.countP (fun b => !b) ≤ fuel) →
      wpAny P .any ops Q fuel l (putSome ops vals (fun i => l.getD i true) (List.range m) a0) w := by
  simp only [genChk, Bool.and_eq_true, List.all_eq_true, List.mem_range, decide_eq_true_eq, Bool.or_eq_true, beq_iff_eq] at hc
  obtain ⟨⟨⟨⟨⟨hdst, hgd⟩, hmn⟩, h1n⟩, hnd⟩, hcm⟩ := hc
  have hdm : d < m := by
    simp only [lateChk, Bool.and_eq_true, decide_eq_true_eq] at hlate
    exact hlate.2
  have dlt' : ∀ i t, dstOf ops i = some t → i < ops.size := by
    intro i t h
    rcases Nat.lt_or_ge i ops.size with h' | h'
    · exact h'
    · unfold dstOf at h; rw [Array.getElem?_eq_none h'] at h; cases h
  have dne : ∀ i j, i ≠ j → ∀ t, dstOf ops j = some t → dstOf ops i ≠ some t := by
    intro i j hij t hj hi
    have := (hdst i (dlt' i t hi) j (dlt' j t hj)).resolve_left hij
    simp [hi, hj] at this
  have dlt : ∀ i t, dstOf ops i = some t → t < a0.tmps.size := by
    intro i t hi
    have hj : ∃ j, j < ops.size ∧ i ≠ j := if h : i = 0 then ⟨1, by omega, by omega⟩ else ⟨0, by omega, h⟩
    obtain ⟨j, hj, hij⟩ := hj
    have := (hdst i (dlt' i t hi) j hj).resolve_left hij
    simp [hi] at this
    exact this.1
  have cntAll : ∀ l : Array Bool, (∀ i, i < m → i ≠ d → l.getD i true = true) → calls.countP (fun i => l.getD i true) = calls.length := fun l h => List.countP_eq_length.2 (fun i hi => h i (by simpa using hcm i hi) (fun e => hdc (e ▸ hi)))
  intro fuel
  induction fuel with
  | zero =>
    intro l vals w hl hlm hcl hk hstm hs hf
    exfalso
    have : 0 < l.toList.countP (fun b => !b) := List.countP_pos_iff.2 ⟨false, by
      have hlt : m < l.size := by omega
      have : l[m] = false := by simpa [hlt] using hlm
      rw [← this]; simp, rfl⟩
    omega
  | succ fuel ih =>
    intro l vals w hl hlm hcl hk hstm hs hf
    have cntSet : ∀ i, i < l.size → l.getD i true = false → (l.setIfInBounds i true).toList.countP (fun b => !b) + 1 = l.toList.countP (fun b => !b) := by
      intro i hilt hun
      have hli : l[i] = false := by simpa [hilt] using hun
      have hpos : 0 < l.toList.countP (fun b => !b) := List.countP_pos_iff.2 ⟨false, by rw [← hli]; simp, rfl⟩
      have := List.countP_set (p := fun b : Bool => !b) (l := l.toList) (i := i) (a := true) (by simpa using hilt)
      have e4 : l.toList[i]'(by simpa using hilt) = false := by simpa using hli
      rw [Array.toList_setIfInBounds, this, e4]
      rw [if_pos (by decide : (!false) = true), if_neg (by decide : ¬ (!true) = true)]
      omega
    refine ⟨fun h0 => ?_, fun i hi => ?_⟩
    · exfalso
      have hall : ∀ i, i < m + 1 → l.getD i true = true := by
        intro i
        induction i using Nat.strongRecOn with
        | _ i ihi =>
          intro hi
          rcases Bool.eq_false_or_eq_true (l.getD i true) with h | h
          · exact h
          · exfalso
            obtain ⟨o, ho, hd⟩ := hdown i hi
            have : i ∈ Region.ready .any ops l := mem_ready.2 ⟨h, o, ho, fun e he hb => by rw [getD_two (by have := hd e he hb; omega) false true]; exact ihi e.on (hd e he hb) (by have := hd e he hb; omega)⟩
            rw [h0] at this; cases this
      rw [hall m (by omega)] at hlm; cases hlm
    · obtain ⟨hun, o, ho, hall⟩ := mem_ready.1 hi
      have hile : i ≤ m := by have := (Array.getElem?_eq_some_iff.1 ho).1; omega
      by_cases him : i = m
      · subst him
        rw [hst] at ho; cases ho
        have hothers := late_listed hlate hl hcl hst hall
        unfold wpOp
        simp only [hst]
        rw [if_pos (by simp [Region.wanted, hsg])]
        rw [cntAll l hothers] at hstm
        by_cases hdl : l.getD d true = true
        · have e1 : putSome ops vals (fun j => l.getD j true) (List.range i) a0 = putSome ops vals (fun _ => true) (List.range i) a0 := putSome_congr _ _ (fun j hj => ⟨by
            by_cases hjd : j = d
            · rw [hjd]; exact hdl
            · exact hothers j (List.mem_range.1 hj) hjd, fun _ => rfl⟩)
          rw [e1]
          refine (hA vals w hk hstm (fun j s h => hs j s ?_ h)).imp (Oper.wp_mono (fun a' w' h' => wpAny_done (ready_all hsz fun j hj => ?_) h' fuel)) id
          · by_cases hjd : j = d
            · rw [hjd]; exact hdl
            · exact hothers j (by have := (List.getElem?_eq_some_iff.1 h).1; omega) hjd
          · by_cases hji : j = i
            · subst hji; simp [hl]
            · rw [getD_set_ne true (Ne.symm hji)]
              by_cases hjd : j = d
              · rw [hjd]; exact hdl
              · exact hothers j (by omega) hjd
        · have hdf : l.getD d true = false := by simpa using hdl
          have hla : lateAll ops i = false := by
            rcases Bool.eq_false_or_eq_true (lateAll ops i) with h | h
            · exact absurd (allW_listed h hl hcl hst hall d hdm) (by rw [hdf]; decide)
            · exact h
          have e1 : putSome ops vals (fun j => l.getD j true) (List.range i) a0 = putSome ops vals (fun j => j != d) (List.range i) a0 := putSome_congr _ _ (fun j hj => ⟨by
            by_cases hjd : j = d
            · rw [hjd, hdf]; simp
            · rw [hothers j (List.mem_range.1 hj) hjd]; simp [hjd], fun _ => rfl⟩)
          rw [e1]
          have hf1 : 1 ≤ fuel := by
            have h1 := cntSet d (by omega) hdf
            have h2 : 0 < (l.setIfInBounds d true).toList.countP (fun b => !b) := List.countP_pos_iff.2 ⟨false, by
              have hlt : i < (l.setIfInBounds d true).size := by simp; omega
              have : (l.setIfInBounds d true)[i] = false := by
                have h3 : (l.setIfInBounds d true).getD i true = false := by rw [getD_set_ne true (by omega)]; exact hlm
                rw [Array.getD_eq_getD_getElem?, Array.getElem?_eq_getElem hlt] at h3
                exact h3
              rw [← this]; exact Array.getElem_mem_toList _, rfl⟩
            omega
          obtain ⟨fuel', rfl⟩ : ∃ f, fuel = f + 1 := ⟨fuel - 1, by omega⟩
          have hg : od.guard = none := by
            have hx := hgd d hdm
            simpa [hod] using hx
          have hset : ∀ j, j < i + 1 → j ≠ d → (l.setIfInBounds i true).getD j true = true := by
            intro j hj hjd
            by_cases hji : j = i
            · subst hji; simp [hl]
            · rw [getD_set_ne true (Ne.symm hji)]; exact hothers j (by omega) hjd
          rcases hB hla vals w hk hstm (fun j s hjd h => hs j s (hothers j (by have := (List.getElem?_eq_some_iff.1 h).1; omega) hjd) h) with hq | hq
          · refine Or.inl ?_
            have conv : Oper.wp P st (putSome ops vals (fun j => j != d) (List.range i) a0) w (fun a' w' => lastQ P od Q .normal a' w') Q := by
              unfold Oper.wp at *
              generalize (execOp (putSome ops vals (fun j => j != d) (List.range i) a0).eval st).run P w = r at *
              cases r with
              | ok n w' =>
                cases n <;> simp only [Oper.upon] at hq ⊢ <;>
                  first
                    | exact hq
                    | exact Calls.mono hq (fun e w'' he => by cases e <;> exact he)
                    | exact Rows.mono hq (fun _ _ he => he)
              | halt x w' => cases x <;> simp only [Oper.upon] at hq ⊢ <;> exact hq
            refine Oper.wp_mono (fun a' w' h' => ?_) conv
            refine ⟨fun h0 => ?_, fun j hj => ?_⟩
            · exfalso
              obtain ⟨o2, ho2, hd2⟩ := hdown d (by omega)
              have : d ∈ Region.ready .any ops (l.setIfInBounds i true) := mem_ready.2 ⟨by rw [getD_set_ne true (by omega)]; exact hdf, o2, ho2, fun e he hb => by
                have := hd2 e he hb
                rw [getD_two (by simp; omega) false true]
                exact hset _ (by omega) (by omega)⟩
              rw [h0] at this; cases this
            · obtain ⟨hun2, o2, ho2, _⟩ := mem_ready.1 hj
              have hjle : j < i + 1 := by have := (Array.getElem?_eq_some_iff.1 ho2).1; omega
              obtain rfl : j = d := by
                apply Classical.byContradiction
                intro hjd
                rw [hset j hjle hjd] at hun2; cases hun2
              unfold wpOp
              simp only [hod]
              rw [if_pos (by simp [Region.wanted, hg])]
              refine h'.imp (Oper.wp_mono (fun a'' w'' h'' => wpAny_done (ready_all hsz fun q hq => ?_) h'' fuel')) id
              by_cases hqd : q = j
              · subst hqd; simp [show q < l.size by omega]
              · rw [getD_set_ne true (Ne.symm hqd)]; exact hset q hq hqd
          · exact Or.inr ⟨hq.1, by
              obtain ⟨a1, w1, h2⟩ := hq.2
              exact ⟨a1, w1, lastQ_other h2 (by simp)⟩⟩
      · have him' : i < m := by omega
        have hilt : i < l.size := by omega
        obtain ⟨s, hsi⟩ : ∃ s, specs[i]? = some s := ⟨specs[i]'(by omega), by simp⟩
        have hguard : o.guard = none := by
          have hx := hgd i him'
          simpa [ho] using hx
        have hdo : dstOf ops i = o.dst := by simp [dstOf, ho]
        unfold wpOp
        simp only [ho]
        rw [if_pos (by simp [Region.wanted, hguard])]
        refine Or.inl ?_
        have hcnt := countP_set calls hnd (fun j => l.getD j true) i hun
        refine hstep i o s him' ho hsi _ w (calls.countP fun j => l.getD j true) hk hstm ?_ ?_ ?_ _ ?_
        · rw [← hcnt]; exact List.countP_le_length
        · intro t ht
          refine putSome_eval_other _ _ (fun j hj => ?_)
          intro hjt
          have hjm := List.mem_range.1 hj
          unfold dstOf at hjt
          cases hoj : ops[j]? with
          | none => rw [hoj] at hjt; cases hjt
          | some oj =>
            rw [hoj] at hjt
            have h9 : (ops.extract 0 specs.length)[j]? = some oj := by rw [ext_get _ _ _ (by omega)]; exact hoj
            have := Array.all_eq_true_iff_forall_mem.1 ht oj (Array.mem_of_getElem? h9)
            simp at this hjt
            exact this hjt
        · intro j t s' hj ht hs'
          obtain ⟨e, he, hb⟩ := Array.any_eq_true'.1 hj
          simp only [Bool.and_eq_true, beq_iff_eq] at hb
          obtain ⟨hb, rfl⟩ := hb
          have hlt : e.on < m := by have := (List.getElem?_eq_some_iff.1 hs').1; omega
          have hon' : l.getD e.on true = true := by rw [getD_two (by omega) true false]; exact hall e he hb
          rw [putSome_eval (i := e.on) _ _ List.nodup_range (List.mem_range.2 hlt) hon' ht (dlt _ _ ht) (fun j _ hj => fun h2 => dne e.on j (Ne.symm hj) t h2 ht)]
          exact hs e.on s' hon' hs'
        · intro v w' hv hkw hst'
          have e2 := putSome_set (ops := ops) (vals := vals) (listed := fun j => l.getD j true) (i := i) v (List.range m) a0 List.nodup_range (List.mem_range.2 him') hun (fun j _ hj t ht => dne i j (Ne.symm hj) t ht)
          have e3 : (fun j => if j = i then true else l.getD j true) = fun j => (l.setIfInBounds i true).getD j true := by
            funext j
            by_cases hji : j = i
            · subst hji; simp [hilt]
            · simp only [hji, if_false]; rw [getD_set_ne true (Ne.symm hji)]
          rw [← hdo, ← e2, e3]
          refine ih _ _ w' (by simpa using hl) (by rw [getD_set_ne true him]; exact hlm) (hcl.set hi) (hk.trans hkw) ?_ ?_ ?_
          · rw [← e3, hcnt]; exact hst'
          · intro j s' hj hs'
            by_cases hji : j = i
            · subst hji
              rw [hsi] at hs'; cases hs'
              simp only [if_true]; exact hv
            · simp only [hji, if_false]
              rw [getD_set_ne true (Ne.symm hji)] at hj
              exact (hs j s' hj hs').keeps hkw
          · have := cntSet i hilt hun
            omega

theorem tailQ_wp {k : Nat} {o : Oper} {a : Act} {w : World} {K : Act → World → Prop} (h : Oper.wp P o a w K Q) : Oper.wp P o a w K (tailQ P ops Q k) := by
  unfold Oper.wp at *
  generalize (execOp a.eval o).run P w = r at *
  cases r with
  | ok n w' =>
    cases n <;> simp only [Oper.upon] at h ⊢ <;>
      first
        | exact h
        | exact Calls.mono h (fun e w'' he => by cases e <;> exact he)
        | exact Rows.mono h (fun _ _ he => he)
  | halt x w' => cases x <;> simp only [Oper.upon] at h ⊢ <;> exact h

theorem toTail_of {L : List Oper} : ∀ (l : List Oper), (∀ o ∈ l, o.guard = none) → ∀ a w, wpList P L.toArray Q l a w → tailQ.wpTail P Q l a w := by
  intro l
  induction l with
  | nil => intro _ a w h; exact h
  | cons o l ih =>
    intro hg a w h
    unfold wpList at h
    rw [if_pos (by simp [Region.wanted, hg o List.mem_cons_self])] at h
    exact h.imp (Oper.wp_mono (fun a w h => ih (fun o ho => hg o (List.mem_cons_of_mem _ ho)) a w h)) (fun h => h)

theorem forVals_skip {S : Nat} {w : World} {K : Act → Prop} {vals : Nat → Value} {ops : Array Oper} {d : Nat} : ∀ (ss : List Spec) (i : Nat) (a : Act), ForVals S w K (((List.range' i ss.length).map (dstOf ops)).eraseIdx (d - i)) (ss.eraseIdx (d - i)) a → i ≤ d → d < i + ss.length → (∀ (j : Nat) (s : Spec), i + j ≠ d → ss[j]? = some s → s.holds S w (vals (i + j))) → K (putSome ops vals (fun j => j != d) (List.range' i ss.length) a)
  | [], i, a, h, _, h2, _ => by simp at h2; omega
  | s :: ss, i, a, h, h1, h2, hs => by
    by_cases hid : i = d
    · subst hid
      simp only [Nat.sub_self, List.length_cons, List.range'_succ, List.map_cons, List.eraseIdx_cons_zero] at h
      have := forVals_all (vals := vals) ss (i + 1) a h (fun j s' hj => by have := hs (j + 1) s' (by omega) (by simpa using hj); rwa [show i + (j + 1) = i + 1 + j by omega] at this)
      simp only [putSome, List.length_cons, List.range'_succ, List.foldl_cons, bne_self_eq_false, Bool.false_eq_true, if_false] at this ⊢
      have e : ∀ (l : List Nat) (a : Act), (∀ j ∈ l, j ≠ i) → List.foldl (fun a j => if (j != i) = true then a.put (dstOf ops j) (vals j) else a) a l = List.foldl (fun a j => a.put (dstOf ops j) (vals j)) a l := by
        intro l
        induction l with
        | nil => intro a _; rfl
        | cons x xs ih =>
          intro a hx
          have hxi := hx x (by simp)
          have hb : (x != i) = true := by simpa using hxi
          simp only [List.foldl_cons, hb, if_true]
          exact ih _ (fun j hj => hx j (by simp [hj]))
      rw [e _ _ (fun j hj => by have := List.mem_range'_1.1 hj; omega)]
      simpa using this
    · have hsub : d - i = (d - (i + 1)) + 1 := by omega
      rw [hsub] at h
      simp only [List.length_cons, List.range'_succ, List.map_cons, List.eraseIdx_cons_succ] at h
      have h1' : ForVals S w K (((List.range' (i + 1) ss.length).map (dstOf ops)).eraseIdx (d - (i + 1))) (ss.eraseIdx (d - (i + 1))) (a.put (dstOf ops i) (vals i)) := h (vals i) (hs 0 s (by omega) rfl)
      have := forVals_skip ss (i + 1) _ h1' (by omega) (by simp at h2; omega) (fun j s' hj hj2 => by have := hs (j + 1) s' (by omega) (by simpa using hj2); rwa [show i + (j + 1) = i + 1 + j by omega] at this)
      simp only [putSome, List.length_cons, List.range'_succ, List.foldl_cons, bne_iff_ne, ne_eq, hid, not_false_eq_true, if_true] at this ⊢
      exact this

/-- **A region that draws its order**: shown for all orders at once; operation m comes behind all of the first m but, it may be, number d. -/
theorem region_lateC {L : List Oper} {id : Nat} {a0 : Act} {w : World} (S k W m d : Nat) (specs : List Spec) (calls : List Nat) (ds : List (Option Tmp)) {st od : Oper} (hm : P.follows .mixedOrders = true) (hc : genChk L.toArray a0.tmps.size m calls = true) (hc2 : ((L.toArray.extract 0 (m + 1)).size == m + 1) = true) (ht : tailChk L.toArray (m + 1) = true) (hd : downChk L.toArray (m + 1) = true) (hlate : lateChk (L.toArray.extract 0 (m + 1)) m d = true) (hlen : specs.length = m)
    (hds : (List.range m).map (dstOf L.toArray) = ds) (hst : L[m]? = some st) (hod : L[d]? = some od) (hsg : (st.guard.isNone && od.guard.isNone && decide (d ∉ calls)) = true) (h0 : StreamOk w S k)
    (hstep : LateOps P L.toArray (tailQ P L.toArray Q (m + 1)) a0 S k W w.drew specs calls 0 (L.take m) specs)
    (hA : ∀ w', Keeps S w.drew w' → StreamOk w' S (k + W * calls.length) → ForVals S w' (fun a => wpList P L.toArray Q (st :: L.drop (m + 1)) a w') ds specs a0)
    (hB : lateAll (L.toArray.extract 0 (m + 1)) m = false → ∀ w', Keeps S w.drew w' → StreamOk w' S (k + W * calls.length) → ForVals S w' (fun a => wpList P L.toArray Q (st :: od :: L.drop (m + 1)) a w') (ds.eraseIdx d) (specs.eraseIdx d) a0) : (Code.region id L.toArray true).wp P Q a0 w := by
  subst hlen
  simp only [Bool.and_eq_true, Option.isNone_iff_eq_none, decide_eq_true_eq] at hsg
  obtain ⟨⟨hsg, hog⟩, hdc⟩ := hsg
  have hsz : (L.toArray.extract 0 (specs.length + 1)).size = specs.length + 1 := by simpa using hc2
  have hmL : specs.length + 1 ≤ L.length := by simp at hsz; omega
  have hdm : d < specs.length := by
    simp only [lateChk, Bool.and_eq_true, decide_eq_true_eq] at hlate
    exact hlate.2
  have tailNone : ∀ o ∈ L.drop (specs.length + 1), o.guard = none := by
    intro o ho
    obtain ⟨j, hj⟩ := List.getElem?_of_mem ho
    rw [List.getElem?_drop] at hj
    have hlt := (List.getElem?_eq_some_iff.1 hj).1
    have h := List.all_eq_true.1 ht (specs.length + 1 + j) (List.mem_range.2 (by simpa using hlt))
    simp only [Bool.or_eq_true, decide_eq_true_eq, Bool.and_eq_true] at h
    have h2 := (h.resolve_left (by omega)).2
    rw [show L.toArray[specs.length + 1 + j]? = some o by simpa using hj] at h2
    simpa using h2
  have hdown : ∀ i, i < specs.length + 1 → ∃ o, (L.toArray.extract 0 (specs.length + 1))[i]? = some o ∧ ∀ e ∈ o.after, Region.binds .any e = true → e.on < i := by
    intro i hi
    have h := List.all_eq_true.1 hd i (List.mem_range.2 hi)
    rw [ext_get _ _ _ hi]
    cases ho : L.toArray[i]? with
    | none => rw [ho] at h; cases h
    | some o =>
      rw [ho] at h
      simp only [Option.map_some, Option.getD_some] at h
      refine ⟨o, rfl, fun e he hb => ?_⟩
      have h1 := Array.all_eq_true_iff_forall_mem.1 h e he
      simpa [hb] using h1
  have dEq : ∀ j, j < specs.length → dstOf (L.toArray.extract 0 (specs.length + 1)) j = dstOf L.toArray j := fun j hj => by unfold dstOf; rw [ext_get _ _ _ (by omega)]
  have pEq : ∀ (vals : Nat → Value) (f : Nat → Bool) (l : List Nat), (∀ j ∈ l, j < specs.length) → ∀ a, putSome (L.toArray.extract 0 (specs.length + 1)) vals f l a = putSome L.toArray vals f l a := by
    intro vals f l
    induction l with
    | nil => intro _ a; rfl
    | cons j l ih =>
      intro hl a
      have ih' := ih (fun i hi => hl i (List.mem_cons_of_mem _ hi))
      simp only [putSome, List.foldl_cons] at ih' ⊢
      rw [dEq j (hl j List.mem_cons_self)]
      exact ih' _
  have hc' : genChk (L.toArray.extract 0 (specs.length + 1)) a0.tmps.size specs.length calls = true := by
    simp only [genChk, Bool.and_eq_true, List.all_eq_true, List.mem_range, decide_eq_true_eq, Bool.or_eq_true, beq_iff_eq] at hc ⊢
    obtain ⟨⟨⟨⟨⟨hdst, hgd⟩, hmn⟩, h1n⟩, hnd⟩, hcm⟩ := hc
    refine ⟨⟨⟨⟨⟨fun i hi j hj => ?_, fun i hi => ?_⟩, by omega⟩, by omega⟩, hnd⟩, hcm⟩
    · rw [hsz] at hi hj
      have := hdst i (by simp; omega) j (by simp; omega)
      have ei : dstOf (L.toArray.extract 0 (specs.length + 1)) i = dstOf L.toArray i := by unfold dstOf; rw [ext_get _ _ _ hi]
      have ej : dstOf (L.toArray.extract 0 (specs.length + 1)) j = dstOf L.toArray j := by unfold dstOf; rw [ext_get _ _ _ hj]
      rw [ei, ej]; exact this
    · rw [ext_get _ _ _ (by omega)]; exact hgd i hi
  refine wp_region_any hm ?_
  refine tail_any (specs.length + 1) ht (L.length - (specs.length + 1)) (specs.length + 1) (by simp; omega) (Nat.le_refl _) a0 _ ?_
  have g := gen_late (P := P) (ops := L.toArray.extract 0 (specs.length + 1)) (Q := tailQ P L.toArray Q (specs.length + 1)) (m := specs.length) (d := d) (W := W) (a0 := a0) (S := S) (k := k) (w0 := w.drew) (specs := specs) (calls := calls) (st := st) (od := od) hsz hc' rfl (by rw [ext_get _ _ _ (by omega)]; simpa using hst) hsg (by rw [ext_get _ _ _ (by omega)]; simpa using hod) hlate hdc hdown ?_ ?_ ?_ (specs.length + 1) (Array.replicate (specs.length + 1) false) (fun _ => undef) w.drew (by simp) (by simp) ?_ (Keeps.refl _ _) ?_ ?_ ?_
  · have e0 : ∀ (l : List Nat), (∀ i ∈ l, i < specs.length) → ∀ a, putSome (L.toArray.extract 0 (specs.length + 1)) (fun _ => undef) (fun i => (Array.replicate (specs.length + 1) false).getD i true) l a = a := by
      intro l
      induction l with
      | nil => intro _ a; rfl
      | cons j l ih =>
        intro hl a
        have hj := hl j List.mem_cons_self
        have ih' := ih (fun i hi => hl i (List.mem_cons_of_mem _ hi))
        simp only [putSome, List.foldl_cons] at ih' ⊢
        rw [show (Array.replicate (specs.length + 1) false).getD j true = false by simp [show j < specs.length + 1 by omega]]
        exact ih' a
    rw [e0 _ (fun i hi => List.mem_range.1 hi) a0] at g
    exact g
  · intro i o s hi ho hs a w' c hk hst2 hcc hfr hdp K hK
    have hoL : L[i]? = some o := by rw [ext_get _ _ _ (by omega)] at ho; simpa using ho
    have st2 := lateOps_at 0 _ _ hstep i o s (by rw [List.getElem?_take_of_lt hi]; exact hoL) hs
    rw [Nat.zero_add] at st2
    refine st2 a w' c hk hst2 hcc (fun t ht => hfr t ?_) (fun j t s' hj ht hs' => hdp j t s' hj (by rw [dEq j (List.getElem?_eq_some_iff.1 hs').1]; exact ht) hs') K hK
    rw [Array.extract_extract] 
    simpa [Nat.min_eq_left (show specs.length ≤ specs.length + 1 by omega)] using ht
  · intro vals w' hk hst2 hs
    rw [pEq vals _ _ (fun j hj => List.mem_range.1 hj)]
    have h := hA w' hk hst2
    subst hds
    have h2 := forVals_all (S := S) (w := w') (vals := vals) (ops := L.toArray) (K := fun a => wpList P L.toArray Q (st :: L.drop (specs.length + 1)) a w') specs 0 a0 (by rw [← List.range_eq_range']; exact h) (fun j s hj => by rw [Nat.zero_add]; exact hs j s hj)
    rw [← List.range_eq_range'] at h2
    have h3 := toTail_of (st :: L.drop (specs.length + 1)) (fun o ho => by
      rcases List.mem_cons.1 ho with rfl | ho
      · exact hsg
      · exact tailNone o ho) _ _ h2
    exact h3.imp (fun h => tailQ_wp h) (fun h => h)
  · intro hla vals w' hk hst2 hs
    rw [pEq vals _ _ (fun j hj => List.mem_range.1 hj)]
    have h := hB hla w' hk hst2
    subst hds
    have h2 := forVals_skip (S := S) (w := w') (vals := vals) (ops := L.toArray) (d := d) (K := fun a => wpList P L.toArray Q (st :: od :: L.drop (specs.length + 1)) a w') specs 0 a0 (by rw [← List.range_eq_range']; exact h) (Nat.zero_le _) (by omega) (fun j s hne hj => by rw [Nat.zero_add] at hne ⊢; exact hs j s hne hj)
    rw [← List.range_eq_range'] at h2
    have h3 := toTail_of (st :: od :: L.drop (specs.length + 1)) (fun o ho => by
      rcases List.mem_cons.1 ho with rfl | ho
      · exact hsg
      · rcases List.mem_cons.1 ho with rfl | ho
        · exact hog
        · exact tailNone o ho) _ _ h2
    refine h3.imp (fun h => ?_) (fun h => h)
    have h4 := Oper.wp_mono (K' := fun a' w' => lastQ P od (tailQ P L.toArray Q (specs.length + 1)) .normal a' w') (fun a w h => h.imp (fun h => tailQ_wp h) (fun h => h)) h
    unfold Oper.wp at *
    generalize (execOp (putSome L.toArray vals (fun i => i != d) (List.range specs.length) a0).eval st).run P w' = r at *
    cases r with
    | ok n w' =>
      cases n <;> simp only [Oper.upon] at h4 ⊢ <;>
        first
          | exact h4
          | exact Calls.mono h4 (fun e w'' he => by cases e <;> exact he)
          | exact Rows.mono h4 (fun _ _ he => he)
    | halt x w' => cases x <;> simp only [Oper.upon] at h4 ⊢ <;> exact h4
  · intro i o _ hl
    exfalso
    by_cases h' : i < specs.length + 1
    · simp [h'] at hl
    · simp [h'] at hl
  · have : calls.countP (fun i => (Array.replicate (specs.length + 1) false).getD i true) = 0 := List.countP_eq_zero.2 (fun i hi => by
      have h5 := hc
      simp only [genChk, Bool.and_eq_true, List.all_eq_true, decide_eq_true_eq] at h5
      have := h5.2 i hi
      simp [show i < specs.length + 1 by omega])
    rw [this, Nat.mul_zero]
    exact h0
  · intro i s h hs
    have hlt := (List.getElem?_eq_some_iff.1 hs).1
    simp [show i < specs.length + 1 by omega] at h
  · exact Nat.le_trans List.countP_le_length (by simp)
theorem region_late {L : List Oper} {id : Nat} {a0 : Act} {w : World} (S k W m d : Nat) (specs : List Spec) (calls : List Nat) (ds : List (Option Tmp)) {st od : Oper} (hm : P.follows .mixedOrders = true) (hc : genChk L.toArray a0.tmps.size m calls = true) (hc2 : ((L.toArray.extract 0 (m + 1)).size == m + 1) = true) (ht : tailChk L.toArray (m + 1) = true) (hd : downChk L.toArray (m + 1) = true) (hlate : lateChk (L.toArray.extract 0 (m + 1)) m d = true) (hlen : specs.length = m)
    (hds : (List.range m).map (dstOf L.toArray) = ds) (hst : L[m]? = some st) (hod : L[d]? = some od) (hsg : (st.guard.isNone && od.guard.isNone && decide (d ∉ calls)) = true) (h0 : StreamOk w S k)
    (hstep : LateOps P L.toArray (tailQ P L.toArray Q (m + 1)) a0 S k W w.drew specs calls 0 (L.take m) specs)
    (hA : ∀ w', Keeps S w.drew w' → StreamOk w' S (k + W * calls.length) → ForVals S w' (fun a => wpList P L.toArray Q (st :: L.drop (m + 1)) a w') ds specs a0)
    (hB : ∀ w', Keeps S w.drew w' → StreamOk w' S (k + W * calls.length) → ForVals S w' (fun a => wpList P L.toArray Q (st :: od :: L.drop (m + 1)) a w') (ds.eraseIdx d) (specs.eraseIdx d) a0) : (Code.region id L.toArray true).wp P Q a0 w :=
  region_lateC S k W m d specs calls ds hm hc hc2 ht hd hlate hlen hds hst hod hsg h0 hstep hA (fun _ => hB)
/-- The same where operation m waits, through others, for all ahead of it (d: any one that is no call): one end goal. -/
theorem region_all {L : List Oper} {id : Nat} {a0 : Act} {w : World} (S k W m d : Nat) (specs : List Spec) (calls : List Nat) (ds : List (Option Tmp)) {st od : Oper} (hm : P.follows .mixedOrders = true) (hc : genChk L.toArray a0.tmps.size m calls = true) (hc2 : ((L.toArray.extract 0 (m + 1)).size == m + 1) = true) (ht : tailChk L.toArray (m + 1) = true) (hd : downChk L.toArray (m + 1) = true) (hlate : (lateAll (L.toArray.extract 0 (m + 1)) m && lateChk (L.toArray.extract 0 (m + 1)) m d) = true) (hlen : specs.length = m)
    (hds : (List.range m).map (dstOf L.toArray) = ds) (hst : L[m]? = some st) (hod : L[d]? = some od) (hsg : (st.guard.isNone && od.guard.isNone && decide (d ∉ calls)) = true) (h0 : StreamOk w S k)
    (hstep : LateOps P L.toArray (tailQ P L.toArray Q (m + 1)) a0 S k W w.drew specs calls 0 (L.take m) specs)
    (hA : ∀ w', Keeps S w.drew w' → StreamOk w' S (k + W * calls.length) → ForVals S w' (fun a => wpList P L.toArray Q (st :: L.drop (m + 1)) a w') ds specs a0) : (Code.region id L.toArray true).wp P Q a0 w := by
  rw [Bool.and_eq_true] at hlate
  exact region_lateC S k W m d specs calls ds hm hc hc2 ht hd hlate.2 hlen hds hst hod hsg h0 hstep hA (fun h => by rw [hlate.1] at h; cases h)
theorem heap_alloc_new (w : World) (o : Obj) : (w.alloc o).heap[w.heap.size]? = some o := by
  show (w.heap.push o)[w.heap.size]? = some o
  simp
/-- A new block behind a pointer. -/
theorem gen_box {o : Oper} {a : Act} {w : World} {K : Act → World → Prop} {S k : Nat} {p : World → Value → Prop} (cs : Array Value) (ty : TypeId) (h : (execOp a.eval o).run P w = .ok (.value (.pointer (some ⟨w.heap.size, 0, none⟩))) (w.alloc (.cells cs ty))) (hp : ∀ w', Keeps S (w.alloc (.cells cs ty)) w' → p w' (.pointer (some ⟨w.heap.size, 0, none⟩))) (hst : StreamOk w S k)
    (hK : ∀ v w', (Spec.mem p).holds S w' v → Keeps S w w' → StreamOk w' S k → K (a.put o.dst v) w') : Oper.wp P o a w K Q := by
  unfold Oper.wp; rw [h]
  exact hK _ _ hp ((Keeps.refl S w).alloc _) (hst.below (ext_alloc (Below.refl _ _)))
/-- What was there before, asked on a list (quick to reckon). -/
theorem fr_list {ops : Array Oper} {n : Nat} {R : Tmp → Prop} (h : ∀ t, ((ops.extract 0 n).all fun o => o.dst != some t) = true → R t) (t : Tmp) (hl : ((ops.toList.take n).all fun o => o.dst != some t) = true) : R t := by
  refine h t ?_
  rw [← Array.all_toList, Array.toList_extract, List.extract_eq_take_drop]
  simpa using hl
end
end Go.Proofs.YtppinnjdaoaddaaGreatDoor.NoS

namespace Go.Proofs.YtppinnjdaoaddaaGreatDoor
open Go.RowKit

theorem calls_pick (S k : Nat) (v : Value) (vals : List Int) (p : Int → Prop) (w : World) (h : StreamOk w S k) (hk : k ≤ 1000000000) (ha : (Spec.arr vals.length (· = vals.map (Value.int .i64))).holds S w v) (h1 : 1 ≤ vals.length) (h2 : vals.length ≤ 1000) (hp : ∀ x ∈ vals, p x) :
    Calls Tryz.prog 11 #[.pointer (some ⟨S, 0, none⟩), v] w (PickPost S (k + 1) p w) := by
  obtain ⟨b, vs, rfl, rfl, hb, hl, hc⟩ := ha
  refine pick_any S k b vals.length vals.length vals p w h hk hl hb h1 h2 (fun i hi => ?_) (fun i hi => ?_)
  · exact hc i _ (by simp [hi])
  · rw [show vals.getD i _ = vals[i] by simp [hi]]; exact hp _ (List.getElem_mem hi)

theorem calls_some (S k : Nat) (v : Value) (vals : List (List UInt8)) (p : List UInt8 → Prop) (w : World) (h : StreamOk w S k) (hk : k ≤ 1000000000) (ha : (Spec.arr vals.length (· = vals.map (fun s => Value.string ⟨s.toArray⟩))).holds S w v) (h1 : 1 ≤ vals.length) (h2 : vals.length ≤ 1000) (hp : ∀ x ∈ vals, p x) :
    Calls Tryz.prog 26 #[.pointer (some ⟨S, 0, none⟩), v] w (SomePost S (k + 1) p w) := by
  obtain ⟨b, vs, rfl, rfl, hb, hl, hc⟩ := ha
  refine some_any S k b vals.length vals.length vals p w h hk hl hb h1 h2 (fun i hi => ?_) (fun i hi => ?_)
  · exact hc i _ (by simp [hi])
  · rw [show vals.getD i _ = vals[i] by simp [hi]]; exact hp _ (List.getElem_mem hi)

/-- A slot by its place. -/
theorem slot_of {a : Act} {t : Tmp} {v : Value} (h : a.eval (.tmp t) = v) : a.tmps[t]?.getD undef = v := by rw [← h]; simp [Act.eval]
end Go.Proofs.YtppinnjdaoaddaaGreatDoor

set_option linter.unusedVariables false
set_option linter.unusedSimpArgs false
namespace Go.Proofs.YtppinnjdaoaddaaGreatDoor
open Go.RowKit Go.Sort Go.Lib

theorem drew_size (w : World) : w.drew.heap.size = w.heap.size := rfl
theorem idxC_empty {l : List Carr} (hl : l.length ≤ 50) (h : carrsErr l = 0) : idxC l [] < 0 := by
  rw [idxC_neg]
  have z1 : ∀ j, j < l.length → carrErr l j = 0 := first_zero (by unfold carrsErr at h; rw [if_neg (by omega)] at h; exact h)
  unfold hasC
  rw [List.any_eq_false]
  intro x hx
  obtain ⟨j, hj, rfl⟩ := List.getElem_of_mem hx
  have := carr_key (z1 j hj)
  rw [List.getD_eq_getElem?_getD, List.getElem?_eq_getElem hj] at this
  simpa using this
theorem cost_zero {l : List Carr} {r : Rcd} (h : costE l r = 0) : carrsErr l = 0 ∧ isNumB r.to_ = true ∧ (0 ≤ r.talk ∧ r.talk ≤ 86400000) ∧ (r.carrier = [] ∨ 0 ≤ idxC l r.carrier) := by
  unfold costE at h
  split at h
  · rename_i h1; exact absurd h h1
  · rename_i h1
    split at h
    · cases h
    · rename_i h2
      split at h
      · cases h
      · rename_i h3
        split at h
        · cases h
        · rename_i h4
          refine ⟨Classical.not_not.1 h1, by simpa using h2, ?_, ?_⟩
          · have h5 : inB r.talk 0 86400000 = true := by
              cases h6 : inB r.talk 0 86400000 with
              | true => rfl
              | false => exact absurd (Or.inr h6) h3
            unfold inB at h5
            simpa using h5
          · by_cases h7 : r.carrier = []
            · exact Or.inl h7
            · exact Or.inr (by
                by_cases h8 : idxC l r.carrier < 0
                · exact absurd ⟨h7, h8⟩ h4
                · omega)
set_option maxRecDepth 100000 in
set_option maxHeartbeats 8000000 in
theorem costFor_any (w : World) (a : Option Addr) (n cap : Nat) (l : List Carr) (hl : CarrRow w a n l) (hcap : n ≤ cap) (r : Rcd) (h1 : r.to_.length ≤ 100) (h2 : r.carrier.length ≤ 100) (h0 : costE l r = 0) : Calls Tryz.prog 40 #[.slice a n cap, .agg (Rcd.cells r).toArray] w (PriceOfPost (costR l r) w) := by
  obtain ⟨z0, z1, z2, z3⟩ := cost_zero h0
  have hfew := hl.few
  have hlen := hl.len
  have HR := Lib.hid hl
  have HLEN := Lib.hid hlen
  have HC : Hid (costR l r = if r.carrier = [] then (0, false) else costV (l.getD (idxC l r.carrier).toNat noCarr).decks (r.to_.drop 1) r.at_ r.talk) := rfl
  have HFD := Lib.hid (fun W (h : Below w.heap.size w W) => carrAt_any W a n cap l (hl.below h) r.carrier)
  have HID : Hid (0 ≤ idxC l r.carrier → (idxC l r.carrier).toNat < l.length) := fun h => idxC_lt h
  have HGA : Hid (GoodAt l r.at_) := good_row hl z0
  have HNP : Hid (1 ≤ r.to_.length ∧ r.to_.length ≤ 16) := by obtain ⟨d, q, -, q2, q3⟩ := num_parts z1; exact ⟨by rw [q]; simp, by rw [q]; simp; omega⟩
  have HKC : Hid (idxC l r.carrier < 0 ↔ r.carrier = []) := ⟨fun h => z3.resolve_right (by omega), fun h => by rw [h]; exact idxC_empty (by omega) z0⟩
  clear hl z0 z1 z3 h0 hlen
  generalize costR l r = R at HC ⊢
  obtain ⟨ri, rf, rt, at_, rg, tk, hw, rcr⟩ := r
  simp only at h1 h2 HC HFD HID HGA HNP HKC z2
  show Calls Tryz.prog 40 #[.slice a n cap, .agg #[.string ⟨ri.toArray⟩, .string ⟨rf.toArray⟩, .string ⟨rt.toArray⟩, .int .i64 at_, .int .i64 rg, .int .i64 tk, .int .i64 hw, .string ⟨rcr.toArray⟩]] w _
  generalize idxC l rcr = K at HC HFD HID HKC
  go_enter Tryz.func40, Tryz.ntmps40
  go_upto_region 1 with (fail)
  have HX : Hid (Blk (w.alloc (.cells #[.string ⟨ri.toArray⟩, .string ⟨rf.toArray⟩, .string ⟨rt.toArray⟩, .int .i64 at_, .int .i64 rg, .int .i64 tk, .int .i64 hw, .string ⟨rcr.toArray⟩] 83)) w.heap.size [.string ⟨ri.toArray⟩, .string ⟨rf.toArray⟩, .string ⟨rt.toArray⟩, .int .i64 at_, .int .i64 rg, .int .i64 tk, .int .i64 hw, .string ⟨rcr.toArray⟩] 83) := Blk.new w [.string ⟨ri.toArray⟩, .string ⟨rf.toArray⟩, .string ⟨rt.toArray⟩, .int .i64 at_, .int .i64 rg, .int .i64 tk, .int .i64 hw, .string ⟨rcr.toArray⟩] 83
  have HB : Hid (Below w.heap.size w (w.alloc (.cells #[.string ⟨ri.toArray⟩, .string ⟨rf.toArray⟩, .string ⟨rt.toArray⟩, .int .i64 at_, .int .i64 rg, .int .i64 tk, .int .i64 hw, .string ⟨rcr.toArray⟩] 83))) := ext_alloc (Below.refl _ _)
  generalize (w.alloc (.cells #[.string ⟨ri.toArray⟩, .string ⟨rf.toArray⟩, .string ⟨rt.toArray⟩, .int .i64 at_, .int .i64 rg, .int .i64 tk, .int .i64 hw, .string ⟨rcr.toArray⟩] 83)) = w0 at HX HB ⊢
  have c7 := HX.out.cell 7 rfl
  as_aux_lemma =>
    go_wp2_with fail
    refine (HFD.out _ HB.out).mono ?_
    rintro e w3 ⟨rfl, hb⟩
    have HB3 := Lib.hid (ext_trans HB.out hb)
    have HX3 := Lib.hid (HX.out.below hb)
    clear hb HB HX HFD c7
    by_cases hK : K < 0
    · obtain rfl : R = (0, false) := by rw [HC.out, if_pos (HKC.out.1 hK)]
      clear HC HKC HID HX3 HGA HR HLEN
      as_aux_lemma =>
        go_wp2_with fail
        go_ret2
        exact ⟨rfl, HB3.out⟩
    have hne : rcr ≠ [] := fun h => hK (HKC.out.2 h)
    obtain ⟨kk, rfl⟩ := Int.eq_ofNat_of_zero_le (show 0 ≤ K by omega)
    have hkn : kk < n := by have q1 := HID.out (by omega); have q2 := HLEN.out; omega
    have hkb : ¬ ((kk : Int) < 0) := by omega
    have hkni : (kk : Int) < (n : Int) := by omega
    have HRC : Hid (R = costV (l.getD kk noCarr).decks (rt.drop 1) at_ tk) := by show R = _; rw [HC.out, if_neg hne]; rfl
    have HR3 := Lib.hid (HR.out.below HB3.out)
    have HGK : Hid (∀ d, deckV (l.getD kk noCarr).decks at_ = some d → DeckGood d.setup d.least d.step d.rates) := HGA.out kk (by rw [← HLEN.out]; exact hkn)
    have HCF : Hid (CarrFine w3 (l.getD kk noCarr)) := HR3.out.each kk (by rw [← HLEN.out]; exact hkn)
    obtain ⟨b, off, rfl, hbl, hc⟩ := HR3.out.at (by omega)
    obtain ⟨d0, d1, d2⟩ := hc kk hkn
    have c3 := HX3.out.cell 3 rfl
    clear hc HR3 HR HC HID hK HGA HLEN HKC hne
    generalize l.getD kk noCarr = cx at d0 d1 d2 HCF HRC HGK
    obtain ⟨ky, ln, da, dn, dc, dk⟩ := cx
    simp only at d0 d1 d2 HRC HGK
    have HDK : Hid (∀ W, Below w3.heap.size w3 W → Calls Tryz.prog 32 #[.agg #[.string ⟨ky.toArray⟩, .int .i64 ln, .slice da dn dc], .int .i64 at_] W (DeckAns (deckV dk at_) W)) := fun W hW => deckOf_any W ky ln da dn dc dk (HCF.out.below hW).row HCF.out.cap at_
    have HRF : Hid (∀ W, Below w3.heap.size w3 W → RateRow W ((deckV dk at_).getD noDeck).ra ((deckV dk at_).getD noDeck).rn ((deckV dk at_).getD noDeck).rates) := fun W hW => deckV_fineR (HCF.out.below hW).row at_
    have HC : Hid (costV dk (rt.drop 1) at_ tk = match deckV dk at_ with | none => (0, false) | some d => priceV d.setup d.least d.step d.rates (rt.drop 1) tk) := rfl
    rw [← HRC.out] at HC
    generalize deckV dk at_ = od at HDK HRF HC HGK
    clear HCF HRC
    as_aux_lemma =>
      go_upto_region 4 with (fail)
      go_cut [7, 8] (fun v7 v8 wx => ∃ D, v7 = .pointer (some ⟨D, 0, none⟩) ∧ v8 = .bool od.isSome ∧ Hid (Blk wx D [.int .i64 (od.getD noDeck).from_, .int .i64 (od.getD noDeck).setup, .int .i64 (od.getD noDeck).least, .int .i64 (od.getD noDeck).step, .slice (od.getD noDeck).ra (od.getD noDeck).rn (od.getD noDeck).rc] 63) ∧ Hid (Below w3.heap.size w3 wx))
      case first =>
        have hGl : w.heap.size < w3.heap.size := HX3.out.lt
        clear HRF HC HGK HB3 HX3
        refine NoS.region_late 0 0 1 11 9 [.val (fun v => (.slice (some ⟨b, off, none⟩) n cap) = v), .val (fun v => (.int .i64 kk) = v), .val (fun v => (.pointer (some ⟨b, off + kk * 3, none⟩)) = v), .val (fun v => (.agg #[.string ⟨ky.toArray⟩, .int .i64 ln, .slice da dn dc]) = v), .val (fun v => (.pointer (some ⟨w.heap.size, 3, none⟩)) = v), .val (fun v => (.int .i64 at_) = v), .val (fun v => (.tuple #[.agg #[.int .i64 (od.getD noDeck).from_, .int .i64 (od.getD noDeck).setup, .int .i64 (od.getD noDeck).least, .int .i64 (od.getD noDeck).step, .slice (od.getD noDeck).ra (od.getD noDeck).rn (od.getD noDeck).rc], .bool od.isSome]) = v), .val (fun v => (.tuple #[.agg #[.int .i64 (od.getD noDeck).from_, .int .i64 (od.getD noDeck).setup, .int .i64 (od.getD noDeck).least, .int .i64 (od.getD noDeck).step, .slice (od.getD noDeck).ra (od.getD noDeck).rn (od.getD noDeck).rc], .bool od.isSome]) = v), .val (fun v => (.agg #[.int .i64 (od.getD noDeck).from_, .int .i64 (od.getD noDeck).setup, .int .i64 (od.getD noDeck).least, .int .i64 (od.getD noDeck).step, .slice (od.getD noDeck).ra (od.getD noDeck).rn (od.getD noDeck).rc]) = v), .val (fun v => (.bool od.isSome) = v), .mem (fun W v => ∃ D, v = .pointer (some ⟨D, 0, none⟩) ∧ Blk W D [.int .i64 0, .int .i64 0, .int .i64 0, .int .i64 0, .slice none 0 0] 63 ∧ w3.heap.size ≤ D)] [6] [some 16, some 17, some 18, some 19, some 20, some 21, some 22, some 15, some 23, some 24, some 7] rfl (by kernel_rfl) (by kernel_rfl) (by kernel_rfl) (by kernel_rfl) (by kernel_rfl) rfl (by kernel_rfl) rfl rfl (by kernel_rfl) trivial ⟨?_, ?_, ?_, ?_, ?_, ?_, ?_, ?_, ?_, ?_, ?_, trivial⟩ ?_ ?_
        · intro a w' c hk hst hc hfr hdp K hK
          as_aux_lemma =>
            have E0 : a.eval (.tmp 0) = .slice (some ⟨b, off, none⟩) n cap := NoS.fr_list hfr 0 (by kernel_rfl)
            have d0_ := slot_of E0
            refine NoS.gen_pure (v := .slice (some ⟨b, off, none⟩) n cap) ?_ (hK _ _ rfl (NoS.Keeps.refl _ _) hst)
            clear hK hdp hfr
            go_simp
        · intro a w' c hk hst hc hfr hdp K hK
          as_aux_lemma =>
            have E6 : a.eval (.tmp 6) = .int .i64 kk := NoS.fr_list hfr 6 (by kernel_rfl)
            have d6_ := slot_of E6
            refine NoS.gen_pure (v := .int .i64 kk) ?_ (hK _ _ rfl (NoS.Keeps.refl _ _) hst)
            clear hK hdp hfr
            go_simp
        · intro a w' c hk hst hc hfr hdp K hK
          as_aux_lemma =>
            have E16 : a.eval (.tmp 16) = .slice (some ⟨b, off, none⟩) n cap := Eq.symm (hdp 0 16 _ (by kernel_rfl) (by kernel_rfl) rfl)
            have d16_ := slot_of E16
            have E17 : a.eval (.tmp 17) = .int .i64 kk := Eq.symm (hdp 1 17 _ (by kernel_rfl) (by kernel_rfl) rfl)
            have d17_ := slot_of E17
            refine NoS.gen_pure (v := .pointer (some ⟨b, off + kk * 3, none⟩)) ?_ (hK _ _ rfl (NoS.Keeps.refl _ _) hst)
            clear hK hdp hfr
            go_simp
        · intro a w' c hk hst hc hfr hdp K hK
          as_aux_lemma =>
            have E18 : a.eval (.tmp 18) = .pointer (some ⟨b, off + kk * 3, none⟩) := Eq.symm (hdp 2 18 _ (by kernel_rfl) (by kernel_rfl) rfl)
            have d18_ := slot_of E18
            have e0 : w'.cell? ⟨b, off + kk * 3, none⟩ = some (.string ⟨ky.toArray⟩) := (hk.cell (p := ⟨b, off + kk * 3, none⟩) hbl).trans d0
            have e1 : w'.cell? ⟨b, off + kk * 3 + 1, none⟩ = some (.int .i64 ln) := (hk.cell (p := ⟨b, off + kk * 3 + 1, none⟩) hbl).trans d1
            have e2 : w'.cell? ⟨b, off + kk * 3 + 2, none⟩ = some (.slice da dn dc) := (hk.cell (p := ⟨b, off + kk * 3 + 2, none⟩) hbl).trans d2
            refine NoS.gen_pure (v := .agg #[.string ⟨ky.toArray⟩, .int .i64 ln, .slice da dn dc]) ?_ (hK _ _ rfl (NoS.Keeps.refl _ _) hst)
            clear hK hdp hfr
            go_simp
        · intro a w' c hk hst hc hfr hdp K hK
          as_aux_lemma =>
            have E3 : a.eval (.tmp 3) = .pointer (some ⟨w.heap.size, 0, none⟩) := NoS.fr_list hfr 3 (by kernel_rfl)
            have d3_ := slot_of E3
            refine NoS.gen_pure (v := .pointer (some ⟨w.heap.size, 3, none⟩)) ?_ (hK _ _ rfl (NoS.Keeps.refl _ _) hst)
            clear hK hdp hfr
            go_simp
        · intro a w' c hk hst hc hfr hdp K hK
          as_aux_lemma =>
            have E20 : a.eval (.tmp 20) = .pointer (some ⟨w.heap.size, 3, none⟩) := Eq.symm (hdp 4 20 _ (by kernel_rfl) (by kernel_rfl) rfl)
            have d20_ := slot_of E20
            have e0 : w'.cell? ⟨w.heap.size, 3, none⟩ = some (.int .i64 at_) := (hk.cell (p := ⟨w.heap.size, 3, none⟩) hGl).trans c3
            refine NoS.gen_pure (v := .int .i64 at_) ?_ (hK _ _ rfl (NoS.Keeps.refl _ _) hst)
            clear hK hdp hfr
            go_simp
        · intro a w' c hk hst hc hfr hdp K hK
          as_aux_lemma =>
            have E19 : a.eval (.tmp 19) = .agg #[.string ⟨ky.toArray⟩, .int .i64 ln, .slice da dn dc] := Eq.symm (hdp 3 19 _ (by kernel_rfl) (by kernel_rfl) rfl)
            have d19_ := slot_of E19
            have E21 : a.eval (.tmp 21) = .int .i64 at_ := Eq.symm (hdp 5 21 _ (by kernel_rfl) (by kernel_rfl) rfl)
            have d21_ := slot_of E21
            refine NoS.gen_call 32 #[.agg #[.string ⟨ky.toArray⟩, .int .i64 ln, .slice da dn dc], .int .i64 at_] ?_ (HDK.out w' (ext_trans (by exact ext_drew (Below.refl _ _)) (NoS.Keeps.below hk))) ?_
            · clear hK hdp hfr; go_simp
            rintro e w'' ⟨rfl, hb9⟩
            exact ⟨_, rfl, hK _ _ rfl (NoS.Keeps.of_below hb9) trivial⟩
        · intro a w' c hk hst hc hfr hdp K hK
          as_aux_lemma =>
            have E22 : a.eval (.tmp 22) = .tuple #[.agg #[.int .i64 (od.getD noDeck).from_, .int .i64 (od.getD noDeck).setup, .int .i64 (od.getD noDeck).least, .int .i64 (od.getD noDeck).step, .slice (od.getD noDeck).ra (od.getD noDeck).rn (od.getD noDeck).rc], .bool od.isSome] := Eq.symm (hdp 6 22 _ (by kernel_rfl) (by kernel_rfl) rfl)
            have d22_ := slot_of E22
            refine NoS.gen_pure (v := .tuple #[.agg #[.int .i64 (od.getD noDeck).from_, .int .i64 (od.getD noDeck).setup, .int .i64 (od.getD noDeck).least, .int .i64 (od.getD noDeck).step, .slice (od.getD noDeck).ra (od.getD noDeck).rn (od.getD noDeck).rc], .bool od.isSome]) ?_ (hK _ _ rfl (NoS.Keeps.refl _ _) hst)
            clear hK hdp hfr
            go_simp
        · intro a w' c hk hst hc hfr hdp K hK
          as_aux_lemma =>
            have E15 : a.eval (.tmp 15) = .tuple #[.agg #[.int .i64 (od.getD noDeck).from_, .int .i64 (od.getD noDeck).setup, .int .i64 (od.getD noDeck).least, .int .i64 (od.getD noDeck).step, .slice (od.getD noDeck).ra (od.getD noDeck).rn (od.getD noDeck).rc], .bool od.isSome] := Eq.symm (hdp 7 15 _ (by kernel_rfl) (by kernel_rfl) rfl)
            have d15_ := slot_of E15
            refine NoS.gen_pure (v := .agg #[.int .i64 (od.getD noDeck).from_, .int .i64 (od.getD noDeck).setup, .int .i64 (od.getD noDeck).least, .int .i64 (od.getD noDeck).step, .slice (od.getD noDeck).ra (od.getD noDeck).rn (od.getD noDeck).rc]) ?_ (hK _ _ rfl (NoS.Keeps.refl _ _) hst)
            clear hK hdp hfr
            go_simp
        · intro a w' c hk hst hc hfr hdp K hK
          as_aux_lemma =>
            have E15 : a.eval (.tmp 15) = .tuple #[.agg #[.int .i64 (od.getD noDeck).from_, .int .i64 (od.getD noDeck).setup, .int .i64 (od.getD noDeck).least, .int .i64 (od.getD noDeck).step, .slice (od.getD noDeck).ra (od.getD noDeck).rn (od.getD noDeck).rc], .bool od.isSome] := Eq.symm (hdp 7 15 _ (by kernel_rfl) (by kernel_rfl) rfl)
            have d15_ := slot_of E15
            refine NoS.gen_pure (v := .bool od.isSome) ?_ (hK _ _ rfl (NoS.Keeps.refl _ _) hst)
            clear hK hdp hfr
            go_simp
        · intro a w' c hk hst hc hfr hdp K hK
          as_aux_lemma =>
            refine wp_val (v := .pointer (some ⟨w'.heap.size, 0, none⟩)) (w' := w'.alloc (.cells #[.int .i64 0, .int .i64 0, .int .i64 0, .int .i64 0, .slice none 0 0] 63)) ?_ (hK _ _ ?_ ?_ trivial)
            · clear hK hdp hfr; go_simp
            · intro w9 h9
              exact ⟨_, rfl, (Blk.new w' [.int .i64 0, .int .i64 0, .int .i64 0, .int .i64 0, .slice none 0 0] 63).below (NoS.Keeps.below h9), (by have h8 := NoS.Keeps.size hk; exact h8)⟩
            · exact NoS.Keeps.of_below (ext_alloc (Below.refl _ _))
        · intro w9 hk9 _
          as_aux_lemma =>
            rintro _ rfl _ rfl _ rfl _ rfl _ rfl _ rfl _ rfl _ rfl _ rfl _ rfl _ h10
            obtain ⟨D, rfl, hD, hDl⟩ := h10 w9 (NoS.Keeps.refl _ _)
            simp only [NoS.ForVals, Act.put, List.setIfInBounds_toArray, List.set_cons_zero, List.set_cons_succ, List.drop_succ_cons, List.drop_zero]
            have hb9 : Below w3.heap.size w3 w9 := ext_trans (by exact ext_drew (Below.refl _ _)) (NoS.Keeps.below hk9)
            have HTH : Hid (w9.there D 0 5) := hD.th 5 (by simp)
            have HD9 : Hid (Blk (w9.setCells D 0 [.int .i64 (od.getD noDeck).from_, .int .i64 (od.getD noDeck).setup, .int .i64 (od.getD noDeck).least, .int .i64 (od.getD noDeck).step, .slice (od.getD noDeck).ra (od.getD noDeck).rn (od.getD noDeck).rc]) D [.int .i64 (od.getD noDeck).from_, .int .i64 (od.getD noDeck).setup, .int .i64 (od.getD noDeck).least, .int .i64 (od.getD noDeck).step, .slice (od.getD noDeck).ra (od.getD noDeck).rn (od.getD noDeck).rc] 63) := ((((((hD.put 0 _).put 1 _).put 2 _).put 3 _).put 4 _))
            have HB9 : Hid (Below w3.heap.size w3 (w9.setCells D 0 [.int .i64 (od.getD noDeck).from_, .int .i64 (od.getD noDeck).setup, .int .i64 (od.getD noDeck).least, .int .i64 (od.getD noDeck).step, .slice (od.getD noDeck).ra (od.getD noDeck).rn (od.getD noDeck).rc])) := below5 hDl hb9 _
            clear hD hb9 hk9 h10
            go_wp2_with (refine wpList_store_mid rfl 63 (.tmp 7) (.tmp 23) rfl D 0 #[.int .i64 (od.getD noDeck).from_, .int .i64 (od.getD noDeck).setup, .int .i64 (od.getD noDeck).least, .int .i64 (od.getD noDeck).step, .slice (od.getD noDeck).ra (od.getD noDeck).rn (od.getD noDeck).rc] rfl rfl HTH.out Tryz.deckSz (by simp [Value.oneCell']) ?_; generalize World.setCells w9 D 0 _ = W9 at HD9 HB9 ⊢)
            go_meet
            exact ⟨D, rfl, rfl, HD9.out, HB9.out⟩
        · intro w9 hk9 _
          as_aux_lemma =>
            rintro _ rfl _ rfl _ rfl _ rfl _ rfl _ rfl _ rfl _ rfl _ rfl _ h10
            obtain ⟨D, rfl, hD, hDl⟩ := h10 w9 (NoS.Keeps.refl _ _)
            simp only [NoS.ForVals, Act.put, List.setIfInBounds_toArray, List.set_cons_zero, List.set_cons_succ, List.drop_succ_cons, List.drop_zero]
            have hb9 : Below w3.heap.size w3 w9 := ext_trans (by exact ext_drew (Below.refl _ _)) (NoS.Keeps.below hk9)
            have HTH : Hid (w9.there D 0 5) := hD.th 5 (by simp)
            have HD9 : Hid (Blk (w9.setCells D 0 [.int .i64 (od.getD noDeck).from_, .int .i64 (od.getD noDeck).setup, .int .i64 (od.getD noDeck).least, .int .i64 (od.getD noDeck).step, .slice (od.getD noDeck).ra (od.getD noDeck).rn (od.getD noDeck).rc]) D [.int .i64 (od.getD noDeck).from_, .int .i64 (od.getD noDeck).setup, .int .i64 (od.getD noDeck).least, .int .i64 (od.getD noDeck).step, .slice (od.getD noDeck).ra (od.getD noDeck).rn (od.getD noDeck).rc] 63) := ((((((hD.put 0 _).put 1 _).put 2 _).put 3 _).put 4 _))
            have HB9 : Hid (Below w3.heap.size w3 (w9.setCells D 0 [.int .i64 (od.getD noDeck).from_, .int .i64 (od.getD noDeck).setup, .int .i64 (od.getD noDeck).least, .int .i64 (od.getD noDeck).step, .slice (od.getD noDeck).ra (od.getD noDeck).rn (od.getD noDeck).rc])) := below5 hDl hb9 _
            clear hD hb9 hk9 h10
            go_wp2_with (refine wpList_store_mid rfl 63 (.tmp 7) (.tmp 23) rfl D 0 #[.int .i64 (od.getD noDeck).from_, .int .i64 (od.getD noDeck).setup, .int .i64 (od.getD noDeck).least, .int .i64 (od.getD noDeck).step, .slice (od.getD noDeck).ra (od.getD noDeck).rn (od.getD noDeck).rc] rfl rfl HTH.out Tryz.deckSz (by simp [Value.oneCell']) ?_; generalize World.setCells w9 D 0 _ = W9 at HD9 HB9 ⊢)
            go_meet
            exact ⟨D, rfl, rfl, HD9.out, HB9.out⟩
      case rest =>
        obtain ⟨D, rfl, rfl, HD5, HB5⟩ := hcut
        obtain ⟨w5, rfl⟩ : ∃ x : World, x = wc := ⟨_, rfl⟩
        have HBF := Lib.hid (ext_trans HB3.out HB5.out)
        have HX5 := Lib.hid (HX3.out.below HB5.out)
        have HR5 := Lib.hid (HRF.out _ HB5.out)
        clear HB3 HX3 HRF HDK HB5 c3 d0 d1 d2
        have c2 := HX5.out.cell 2 rfl
        have c5 := HX5.out.cell 5 rfl
        cases od with
        | none =>
          obtain rfl : R = (0, false) := HC.out
          clear HC HGK HR5 HX5 HD5
          as_aux_lemma =>
            go_wp2_with fail
            go_ret2
            exact ⟨rfl, HBF.out⟩
        | some d =>
          have hgd := HGK.out d rfl
          obtain ⟨df, ds, dl, dp, ra, rn, rc, rates⟩ := d
          obtain rfl : R = priceV ds dl dp rates (rt.drop 1) tk := HC.out
          simp only [Option.getD_some, Option.isSome_some] at HR5 HD5 ⊢
          have HRX : Hid (w5.rangeAt D 0 [.int .i64 df, .int .i64 ds, .int .i64 dl, .int .i64 dp, .slice ra rn rc]) := fun j v hj => by rw [Nat.zero_add]; exact HD5.out.cell j hj
          have HPF : Hid (Calls Tryz.prog 78 #[.agg #[.int .i64 df, .int .i64 ds, .int .i64 dl, .int .i64 dp, .slice ra rn rc], .string ⟨rt.toArray⟩, .int .i64 tk] w5 (PriceOfPost (priceV ds dl dp rates (rt.drop 1) tk) w5)) := priceFor_any w5 df ds dl dp ra rn rc rates rt tk HR5.out hgd HNP.out.1 HNP.out.2 z2
          clear HC HGK HR5 hgd HX5 HD5
          as_aux_lemma =>
            go_wp2_with (refine wpList_load_mid rfl 63 (.tmp 7) rfl D 0 rfl [.int .i64 df, .int .i64 ds, .int .i64 dl, .int .i64 dp, .slice ra rn rc] _ HRX.out Tryz.underlying63 rfl Tryz.deckSz ?_)
            refine HPF.out.mono ?_
            rintro e w6 ⟨rfl, hb⟩
            have HB6 := Lib.hid (ext_trans HBF.out hb)
            clear hb HBF HPF
            go_wp2_with fail
            go_ret2
            exact ⟨by first | rfl | (rw [List.drop_one]; rfl), HB6.out⟩
end Go.Proofs.YtppinnjdaoaddaaGreatDoor

set_option linter.unusedVariables false
set_option linter.unusedSimpArgs false
namespace Go.Proofs.YtppinnjdaoaddaaGreatDoor
open Go.RowKit

def all13 : List (List UInt8) := [[], [49], [49, 50], [49, 50, 48], [52], [52, 57], [52, 57, 49], [52, 57, 51], [52, 57, 51, 48], [52, 57, 51, 48, 49], [52, 57, 52], [53, 53], [53, 53, 49]]
def all12 : List (List UInt8) := [[52], [52, 57], [52, 57, 48], [52, 57, 49], [52, 57, 50], [52, 57, 51], [52, 57, 52], [52, 57, 53], [52, 57, 54], [52, 57, 55], [52, 57, 56], [52, 57, 57]]
theorem all13_short (i : Nat) : (all13.getD i []).length ≤ 100 := by
  by_cases h : i < 13
  · have : ∀ j : Fin 13, (all13.getD j.val []).length ≤ 100 := by decide
    exact this ⟨i, h⟩
  · rw [List.getD_eq_getElem?_getD, List.getElem?_eq_none (by show 13 ≤ i; omega)]; exact Nat.zero_le _
theorem all12_short (i : Nat) : (all12.getD i []).length ≤ 100 := by
  by_cases h : i < 12
  · have : ∀ j : Fin 12, (all12.getD j.val []).length ≤ 100 := by decide
    exact this ⟨i, h⟩
  · rw [List.getD_eq_getElem?_getD, List.getElem?_eq_none (by show 12 ≤ i; omega)]; exact Nat.zero_le _
/-- What lies in memory while a deck is made: the place of the result, the deck's box, the names. -/
structure RD (S F D A n : Nat) (names : List (List UInt8)) (f s l st : Int) (v : Value) (w : World) : Prop where
  room : Room w F 5
  box : DBox w D f s l st v
  nam : Names w A n names
theorem RD.keeps {S F D A n : Nat} {names : List (List UInt8)} {f s l st : Int} {v : Value} {w w' : World} (h : RD S F D A n names f s l st v w) (hk : Keeps S w w') (h1 : F ≠ S) (h2 : D ≠ S) (h3 : A ≠ S) : RD S F D A n names f s l st v w' :=
  ⟨h.room.keeps hk h1, h.box.keeps hk h2, h.nam.keeps hk h3⟩
theorem RD.grown {S F D A n : Nat} {names : List (List UInt8)} {f s l st : Int} {v : Value} {w w' : World} {row : Option Nat} (h : RD S F D A n names f s l st v w) (hg : w.grownBy w' row) (h1 : row ≠ some F) (h2 : row ≠ some D) (h3 : row ≠ some A) : RD S F D A n names f s l st v w' :=
  ⟨h.room.grown hg h1, h.box.grown hg h2, h.nam.grown hg h3⟩
theorem RD.far {S F D A n : Nat} {names : List (List UInt8)} {f s l st : Int} {v : Value} {w : World} (h : RD S F D A n names f s l st v w) {B o : Nat} (hD : B ≠ D) (hA : B ≠ A) (u : Value) : RD S F D A n names f s l st v (w.setCell ⟨B, o, none⟩ u) :=
  ⟨h.room.set B o u, h.box.far hD u, h.nam.set hA u⟩
theorem RD.setv {S F D A n : Nat} {names : List (List UInt8)} {f s l st : Int} {v : Value} {w : World} (h : RD S F D A n names f s l st v w) (hA : D ≠ A) (u : Value) : RD S F D A n names f s l st u (w.setCell ⟨D, 4, none⟩ u) :=
  ⟨h.room.set D 4 u, h.box.s4 u, h.nam.set hA u⟩

set_option maxRecDepth 100000 in
set_option maxHeartbeats 4000000 in
theorem rightDeck_any (S k : Nat) (w : World) (h : StreamOk w S k) (hk : k ≤ 1000000) (f : Int) (hf : -2000000000000 ≤ f ∧ f ≤ 2000000000000) : Calls Tryz.prog 52 #[.pointer (some ⟨S, 0, none⟩), .int .i64 f] w (RDeckPost S (k + 43) w) := by
  obtain ⟨i1, hi1, hy0, hy1, hy2⟩ := info_parts Tryz.infoRate
  have HS := Lib.hid h
  have hSl := h.lt
  clear h
  go_enter Tryz.func52, Tryz.ntmps52
  go_upto_region 1 with (fail)
  have HF0 : Hid (Room (w.alloc (.cells #[.int .i64 0, .int .i64 0, .int .i64 0, .int .i64 0, .slice none 0 0] 63)) w.heap.size 5) := ⟨by simp, box_th (heap_new _ _)⟩
  have HS0 : Hid (StreamOk (w.alloc (.cells #[.int .i64 0, .int .i64 0, .int .i64 0, .int .i64 0, .slice none 0 0] 63)) S k) := HS.out.below (ext_alloc (Below.refl _ _))
  have HK0 : Hid (Keeps S w (w.alloc (.cells #[.int .i64 0, .int .i64 0, .int .i64 0, .int .i64 0, .slice none 0 0] 63))) := (Keeps.refl _ _).alloc _
  generalize w.alloc (.cells #[.int .i64 0, .int .i64 0, .int .i64 0, .int .i64 0, .slice none 0 0] 63) = w0 at HF0 HS0 HK0 ⊢
  obtain ⟨F, hF⟩ : ∃ F, F = w.heap.size := ⟨_, rfl⟩
  rw [← hF] at HF0 ⊢
  have hFS : F ≠ S := by omega
  have hSF : S + 1 ≤ F := by omega
  have HFW := Lib.hid hF
  clear hF HS
  as_aux_lemma =>
    go_wp2_with (first | (refine wpList_val rfl (bs_i4 _ (fun _ => rfl) _ _ _ _ _ _ rfl) ?_))
    refine (pick_lit S k [0, 0, 5, 100] (fun x => 0 ≤ x ∧ x ≤ 100) _ _ _ HS0.out (by omega) rfl rfl (by decide) (by decide) (by decide)).mono ?_
    rintro e w1 ⟨ps, rfl, ⟨ps0, ps1⟩, hst1, hk1⟩
    have HS1 := Lib.hid hst1
    have HK1 := Lib.hid (HK0.out.trans hk1)
    have HF1 := Lib.hid (HF0.out.keeps hk1 hFS)
    clear hst1 hk1 HS0 HK0 HF0
    as_aux_lemma =>
      go_wp2_with (first | (refine wpList_val rfl (bs_i3 _ (fun _ => rfl) _ _ _ _ _ rfl) ?_))
      refine (pick_lit S (k + 1) [0, 30000, 60000] (fun x => 0 ≤ x ∧ x ≤ 60000) _ _ _ HS1.out (by omega) rfl rfl (by decide) (by decide) (by decide)).mono ?_
      rintro e w2 ⟨pl, rfl, ⟨pl0, pl1⟩, hst2, hk2⟩
      have HS2 := Lib.hid hst2
      have HK2 := Lib.hid (HK1.out.trans hk2)
      have HF2 := Lib.hid (HF1.out.keeps hk2 hFS)
      clear hst2 hk2 HS1 HK1 HF1
      as_aux_lemma =>
        go_wp2_with (first | (refine wpList_val rfl (bs_i3 _ (fun _ => rfl) _ _ _ _ _ rfl) ?_))
        refine (pick_lit S (k + 1 + 1) [1, 1000, 60000] (fun x => 1 ≤ x ∧ x ≤ 60000) _ _ _ HS2.out (by omega) rfl rfl (by decide) (by decide) (by decide)).mono ?_
        rintro e w3 ⟨pt, rfl, ⟨pt0, pt1⟩, hst3, hk3⟩
        have HS3 := Lib.hid hst3
        have HK3 := Lib.hid (HK2.out.trans hk3)
        have HF3 := Lib.hid (HF2.out.keeps hk3 hFS)
        clear hst3 hk3 HS2 HK2 HF2
        as_aux_lemma =>
          go_upto_region 2 with (fail)
          have HD4 : Hid (DBox (w3.alloc (.cells #[.int .i64 f, .int .i64 ps, .int .i64 pl, .int .i64 pt, .slice none 0 0] 63)) w3.heap.size f ps pl pt (.slice none 0 0)) := ⟨by simp, by go_simp, by go_simp, by go_simp, by go_simp, by go_simp, fun j => by go_simp⟩
          have HF4 : Hid (Room (w3.alloc (.cells #[.int .i64 f, .int .i64 ps, .int .i64 pl, .int .i64 pt, .slice none 0 0] 63)) F 5) := HF3.out.below (ext_alloc (Below.refl _ _))
          have HS4 : Hid (StreamOk (w3.alloc (.cells #[.int .i64 f, .int .i64 ps, .int .i64 pl, .int .i64 pt, .slice none 0 0] 63)) S (k + 3)) := HS3.out.below (ext_alloc (Below.refl _ _))
          have HK4 : Hid (Keeps S w (w3.alloc (.cells #[.int .i64 f, .int .i64 ps, .int .i64 pl, .int .i64 pt, .slice none 0 0] 63))) := HK3.out.alloc _
          have hS3 := HS3.out.lt
          have hw3 := HK3.out.size
          have hF3 := HF3.out.lt
          generalize w3.alloc (.cells #[.int .i64 f, .int .i64 ps, .int .i64 pl, .int .i64 pt, .slice none 0 0] 63) = w4 at HD4 HF4 HS4 HK4 ⊢
          obtain ⟨D, hD⟩ : ∃ D, D = w3.heap.size := ⟨_, rfl⟩
          rw [← hD] at HD4 ⊢
          have hDS : D ≠ S := by omega
          have hFD : F ≠ D := by omega
          have hDw : w.heap.size ≤ D := by omega
          clear hD hw3 hF3 hS3 HK3 HF3 HS3
          as_aux_lemma =>
            go_wp2_with (first | (refine wpList_val rfl (bs_s13 _ (fun _ => rfl) _ _ _ _ _ _ _ _ _ _ _ _ _ _ _ rfl) ?_))
            have hS4 := HS4.out.lt
            have HN5 : Hid (Names (w4.alloc (.cells #[.string ⟨#[]⟩, .string ⟨#[49]⟩, .string ⟨#[49, 50]⟩, .string ⟨#[49, 50, 48]⟩, .string ⟨#[52]⟩, .string ⟨#[52, 57]⟩, .string ⟨#[52, 57, 49]⟩, .string ⟨#[52, 57, 51]⟩, .string ⟨#[52, 57, 51, 48]⟩, .string ⟨#[52, 57, 51, 48, 49]⟩, .string ⟨#[52, 57, 52]⟩, .string ⟨#[53, 53]⟩, .string ⟨#[53, 53, 49]⟩] 9)) w4.heap.size 13 all13) := names_new w4 all13 _ rfl _ rfl
            have HK45 : Hid (Keeps S w4 (w4.alloc (.cells #[.string ⟨#[]⟩, .string ⟨#[49]⟩, .string ⟨#[49, 50]⟩, .string ⟨#[49, 50, 48]⟩, .string ⟨#[52]⟩, .string ⟨#[52, 57]⟩, .string ⟨#[52, 57, 49]⟩, .string ⟨#[52, 57, 51]⟩, .string ⟨#[52, 57, 51, 48]⟩, .string ⟨#[52, 57, 51, 48, 49]⟩, .string ⟨#[52, 57, 52]⟩, .string ⟨#[53, 53]⟩, .string ⟨#[53, 53, 49]⟩] 9))) := (Keeps.refl _ _).alloc _
            have HS5 : Hid (StreamOk (w4.alloc (.cells #[.string ⟨#[]⟩, .string ⟨#[49]⟩, .string ⟨#[49, 50]⟩, .string ⟨#[49, 50, 48]⟩, .string ⟨#[52]⟩, .string ⟨#[52, 57]⟩, .string ⟨#[52, 57, 49]⟩, .string ⟨#[52, 57, 51]⟩, .string ⟨#[52, 57, 51, 48]⟩, .string ⟨#[52, 57, 51, 48, 49]⟩, .string ⟨#[52, 57, 52]⟩, .string ⟨#[53, 53]⟩, .string ⟨#[53, 53, 49]⟩] 9)) S (k + 3)) := HS4.out.below (ext_alloc (Below.refl _ _))
            generalize w4.alloc (.cells #[.string ⟨#[]⟩, .string ⟨#[49]⟩, .string ⟨#[49, 50]⟩, .string ⟨#[49, 50, 48]⟩, .string ⟨#[52]⟩, .string ⟨#[52, 57]⟩, .string ⟨#[52, 57, 49]⟩, .string ⟨#[52, 57, 51]⟩, .string ⟨#[52, 57, 51, 48]⟩, .string ⟨#[52, 57, 51, 48, 49]⟩, .string ⟨#[52, 57, 52]⟩, .string ⟨#[53, 53]⟩, .string ⟨#[53, 53, 49]⟩] 9) = w5 at HN5 HK45 HS5 ⊢
            have hD4 := HD4.out.lt
            have hF4 := HF4.out.lt
            obtain ⟨A, hA⟩ : ∃ A, A = w4.heap.size := ⟨_, rfl⟩
            rw [← hA] at HN5 ⊢
            have hAS : A ≠ S := by omega
            have hAD : D ≠ A := by omega
            have hAF : A ≠ F := by omega
            have HRD5 : Hid (RD S F D A 13 all13 f ps pl pt (.slice none 0 0) w5) := ⟨HF4.out.keeps HK45.out hFS, HD4.out.keeps HK45.out hDS, HN5.out⟩
            have HK5 := Lib.hid (HK4.out.trans HK45.out)
            have hAw : w.heap.size ≤ A := by omega
            clear hA hS4 hD4 hF4 HN5 HK45 HS4 HD4 HF4 HK4
            refine (flip_any S (k + 3) 4 _ HS5.out (by omega) (by decide) (by decide)).mono ?_
            rintro e w6 ⟨fl, rfl, hst6, hk6⟩
            have HS6 := Lib.hid hst6
            have HK6 := Lib.hid (HK5.out.trans hk6)
            have HR6 := Lib.hid (HRD5.out.keeps hk6 hFS hDS hAS)
            clear hst6 hk6 HS5 HK5 HRD5
            as_aux_lemma =>
              go_upto_if 23 with (fail)
              go_cut [6] (fun v wx => ∃ (B n : Nat) (names : List (List UInt8)), v = .slice (some ⟨B, 0, none⟩) n n ∧ n ≤ 13 ∧ B ≠ S ∧ D ≠ B ∧ B ≠ F ∧ w.heap.size ≤ B ∧ Hid (∀ i, (names.getD i []).length ≤ 100) ∧ Hid (RD S F D B n names f ps pl pt (.slice none 0 0) wx) ∧ Hid (StreamOk wx S (k + 4)) ∧ Hid (Keeps S w wx))
              case first =>
                cases fl
                · skip
                  as_aux_lemma =>
                    go_wp2_with fail
                    go_meet
                    exact ⟨A, 13, all13, rfl, by omega, hAS, hAD, hAF, hAw, all13_short, HR6.out, HS6.out, HK6.out⟩
                · skip
                  as_aux_lemma =>
                    go_wp2_with (first | (refine wpList_val rfl (bs_s12 _ (fun _ => rfl) _ _ _ _ _ _ _ _ _ _ _ _ _ _ rfl) ?_))
                    have HN7 : Hid (Names (w6.alloc (.cells #[.string ⟨#[52]⟩, .string ⟨#[52, 57]⟩, .string ⟨#[52, 57, 48]⟩, .string ⟨#[52, 57, 49]⟩, .string ⟨#[52, 57, 50]⟩, .string ⟨#[52, 57, 51]⟩, .string ⟨#[52, 57, 52]⟩, .string ⟨#[52, 57, 53]⟩, .string ⟨#[52, 57, 54]⟩, .string ⟨#[52, 57, 55]⟩, .string ⟨#[52, 57, 56]⟩, .string ⟨#[52, 57, 57]⟩] 9)) w6.heap.size 12 all12) := names_new w6 all12 _ rfl _ rfl
                    have HK67 : Hid (Keeps S w6 (w6.alloc (.cells #[.string ⟨#[52]⟩, .string ⟨#[52, 57]⟩, .string ⟨#[52, 57, 48]⟩, .string ⟨#[52, 57, 49]⟩, .string ⟨#[52, 57, 50]⟩, .string ⟨#[52, 57, 51]⟩, .string ⟨#[52, 57, 52]⟩, .string ⟨#[52, 57, 53]⟩, .string ⟨#[52, 57, 54]⟩, .string ⟨#[52, 57, 55]⟩, .string ⟨#[52, 57, 56]⟩, .string ⟨#[52, 57, 57]⟩] 9))) := (Keeps.refl _ _).alloc _
                    have HS7 : Hid (StreamOk (w6.alloc (.cells #[.string ⟨#[52]⟩, .string ⟨#[52, 57]⟩, .string ⟨#[52, 57, 48]⟩, .string ⟨#[52, 57, 49]⟩, .string ⟨#[52, 57, 50]⟩, .string ⟨#[52, 57, 51]⟩, .string ⟨#[52, 57, 52]⟩, .string ⟨#[52, 57, 53]⟩, .string ⟨#[52, 57, 54]⟩, .string ⟨#[52, 57, 55]⟩, .string ⟨#[52, 57, 56]⟩, .string ⟨#[52, 57, 57]⟩] 9)) S (k + 4)) := HS6.out.below (ext_alloc (Below.refl _ _))
                    have hS6 := HS6.out.lt
                    have hD6 := HR6.out.box.lt
                    have hF6 := HR6.out.room.lt
                    have hw6 := HK6.out.size
                    generalize w6.alloc (.cells #[.string ⟨#[52]⟩, .string ⟨#[52, 57]⟩, .string ⟨#[52, 57, 48]⟩, .string ⟨#[52, 57, 49]⟩, .string ⟨#[52, 57, 50]⟩, .string ⟨#[52, 57, 51]⟩, .string ⟨#[52, 57, 52]⟩, .string ⟨#[52, 57, 53]⟩, .string ⟨#[52, 57, 54]⟩, .string ⟨#[52, 57, 55]⟩, .string ⟨#[52, 57, 56]⟩, .string ⟨#[52, 57, 57]⟩] 9) = w7 at HN7 HK67 HS7 ⊢
                    have HR7 : Hid (RD S F D w6.heap.size 12 all12 f ps pl pt (.slice none 0 0) w7) := ⟨HR6.out.room.keeps HK67.out hFS, HR6.out.box.keeps HK67.out hDS, HN7.out⟩
                    go_meet
                    exact ⟨w6.heap.size, 12, all12, rfl, by omega, by omega, by omega, by omega, by omega, all12_short, HR7.out, HS7.out, HK6.out.trans HK67.out⟩
              case rest =>
                clear HS6 HK6 HR6 hAS hAD hAF hAw
                obtain ⟨B, n, names, rfl, hn, hBS, hDB, hBF, hBw, HSH, HR7, HS7, HK7⟩ := hcut
                skip
                as_aux_lemma =>
                  go_wp2_with fail
                  have hSc := HS7.out.lt
                  have hFc := HR7.out.room.lt
                  have hDc := HR7.out.box.lt
                  have hBc := HR7.out.nam.lt
                  obtain ⟨WB, hWB⟩ : ∃ x, x = wc.heap.size := ⟨_, rfl⟩
                  have hwW : w.heap.size ≤ WB := by rw [hWB]; exact HK7.out.size
                  rw [← hWB] at hSc hFc hDc hBc
                  have hWc : WB ≤ wc.heap.size := Nat.le_of_eq hWB
                  clear hWB
                  go_loopw [27] (fun it wr => ∃ (i : Nat) (v : Value) (rates : List Rate), i ≤ n ∧ it = .int .i64 i ∧ rates.length ≤ i ∧ Hid (RatesIn rates) ∧ Hid (wr.ownsRow WB 120 3 v rates.length ((rates.map Rate.cells).flatten)) ∧ WB ≤ wr.heap.size ∧ Hid (RD S F D B n names f ps pl pt v wr) ∧ Hid (StreamOk wr S (k + 4 + 3 * i)) ∧ Hid (Keeps S w wr)) (fun it _ => n - (intOf it).toNat)
                  case atStart => exact ⟨0, .slice none 0 0, [], Nat.zero_le _, rfl, Nat.le_refl _, (fun r hr => by cases hr), World.ownsRow_nil _ _ _ _, hWc, HR7.out, HS7.out, HK7.out⟩
                  case round =>
                    clear HR7 HS7 HK7
                    obtain ⟨i, v, rates, hi, rfl, hrl, HRI, HOW, hWr, HR, HSr, HKr⟩ := hrel
                    by_cases hlt : i < n
                    · have c0 := HR.out.nam.at_ i hlt
                      have hpl := HSH.out i
                      generalize names.getD i [] = nm at c0 hpl
                      as_aux_lemma =>
                        go_wp2_with fail
                        refine (flip_any S (k + 4 + 3 * i) 3 _ HSr.out (by omega) (by decide) (by decide)).mono ?_
                        rintro e w8 ⟨f1, rfl, hst8, hk8⟩
                        have HS8 := Lib.hid hst8
                        have HK8 := Lib.hid (HKr.out.trans hk8)
                        have HR8 := Lib.hid (HR.out.keeps hk8 hFS hDS hBS)
                        have HO8 := Lib.hid (own_keeps HOW.out hk8 hSc)
                        have hW8 : WB ≤ w8.heap.size := Nat.le_trans hWr hk8.size
                        clear hst8 hk8 HSr HKr HR HOW c0 hWr
                        cases f1
                        case true =>
                          skip
                          as_aux_lemma =>
                            go_wp2_with fail
                            go_roundw
                            case rel => exact ⟨i + 1, v, rates, by omega, by go_num, by omega, HRI.out, HO8.out, hW8, HR8.out, HS8.out.mono (by omega), HK8.out⟩
                            case measure => simp [intOf]; omega
                        skip
                        as_aux_lemma =>
                          go_wp2_with (first | (refine wpList_val rfl (bs_i5 _ (fun _ => rfl) _ _ _ _ _ _ _ rfl) ?_))
                          refine (pick_lit S (k + 4 + 3 * i + 1) [0, 50, 100, 100, 1000] (fun x => 0 ≤ x ∧ x ≤ 1000) _ _ _ HS8.out (by omega) rfl rfl (by decide) (by decide) (by decide)).mono ?_
                          rintro e w9 ⟨pr, rfl, ⟨pr0, pr1⟩, hst9, hk9⟩
                          have HS9 := Lib.hid hst9
                          have HK9 := Lib.hid (HK8.out.trans hk9)
                          have HR9 := Lib.hid (HR8.out.keeps hk9 hFS hDS hBS)
                          have HO9 := Lib.hid (own_keeps HO8.out hk9 hSc)
                          have hW9 : WB ≤ w9.heap.size := Nat.le_trans hW8 hk9.size
                          clear hst9 hk9 HS8 HK8 HR8 HO8 hW8
                          as_aux_lemma =>
                            go_upto_region 10 with (fail)
                            have HS10 : Hid (StreamOk (w9.alloc (.cells #[.string ⟨nm.toArray⟩, .int .i64 pr, .bool false] 120)) S (k + 4 + 3 * i + 2)) := HS9.out.below (ext_alloc (Below.refl _ _))
                            have hk10 : Keeps S w9 (w9.alloc (.cells #[.string ⟨nm.toArray⟩, .int .i64 pr, .bool false] 120)) := (Keeps.refl _ _).alloc _
                            have HK10 := Lib.hid (HK9.out.trans hk10)
                            have HR10 := Lib.hid (HR9.out.keeps hk10 hFS hDS hBS)
                            have HO10 := Lib.hid (own_keeps HO9.out hk10 hSc)
                            obtain ⟨a0, a1, a2⟩ : (w9.alloc (.cells #[.string ⟨nm.toArray⟩, .int .i64 pr, .bool false] 120)).cell? ⟨w9.heap.size, 0, none⟩ = some (.string ⟨nm.toArray⟩) ∧ (w9.alloc (.cells #[.string ⟨nm.toArray⟩, .int .i64 pr, .bool false] 120)).cell? ⟨w9.heap.size, 1, none⟩ = some (.int .i64 pr) ∧ (w9.alloc (.cells #[.string ⟨nm.toArray⟩, .int .i64 pr, .bool false] 120)).cell? ⟨w9.heap.size, 2, none⟩ = some (.bool false) := ⟨by go_simp, by go_simp, by go_simp⟩
                            have af : ∀ j, (w9.alloc (.cells #[.string ⟨nm.toArray⟩, .int .i64 pr, .bool false] 120)).frozen? ⟨w9.heap.size, j, none⟩ = false := fun j => by go_simp
                            have hRl : w9.heap.size < (w9.alloc (.cells #[.string ⟨nm.toArray⟩, .int .i64 pr, .bool false] 120)).heap.size := by simp
                            have hRD : w9.heap.size ≠ D := by have := HR9.out.box.lt; omega
                            have hRB : w9.heap.size ≠ B := by have := HR9.out.nam.lt; omega
                            have hRS : w9.heap.size ≠ S := by have := HS9.out.lt; omega
                            have hRv : v.ownBlock ≠ some w9.heap.size := fun e => by have := (HO9.out.lt _ e).2; omega
                            have hRw : w.heap.size ≤ w9.heap.size := HK9.out.size
                            generalize w9.alloc (.cells #[.string ⟨nm.toArray⟩, .int .i64 pr, .bool false] 120) = w10 at HS10 hk10 HK10 HR10 HO10 a0 a1 a2 af hRl ⊢
                            have hW10 : WB ≤ w10.heap.size := Nat.le_trans hW9 hk10.size
                            generalize w9.heap.size = R at a0 a1 a2 af hRl hRD hRB hRS hRv hRw ⊢
                            clear hk10 HS9 HK9 HR9 HO9 hW9
                            as_aux_lemma =>
                              go_wp2_with fail
                              refine (flip_any S (k + 4 + 3 * i + 2) 6 _ HS10.out (by omega) (by decide) (by decide)).mono ?_
                              rintro e w11 ⟨f2, rfl, hst11, hk11⟩
                              have HS11 := Lib.hid hst11
                              have HK11 := Lib.hid (HK10.out.trans hk11)
                              have HR11 := Lib.hid (HR10.out.keeps hk11 hFS hDS hBS)
                              have HO11 := Lib.hid (own_keeps HO10.out hk11 hSc)
                              have e0 := (hk11.cell (p := ⟨R, 0, none⟩) hRl hRS).trans a0
                              have e1 := (hk11.cell (p := ⟨R, 1, none⟩) hRl hRS).trans a1
                              have e2 := (hk11.cell (p := ⟨R, 2, none⟩) hRl hRS).trans a2
                              have ef : ∀ j, w11.frozen? ⟨R, j, none⟩ = false := fun j => (hk11.frozen (p := ⟨R, j, none⟩) hRl hRS).trans (af j)
                              have hW11 : WB ≤ w11.heap.size := Nat.le_trans hW10 hk11.size
                              have hR11 : R < w11.heap.size := Nat.lt_of_lt_of_le hRl hk11.size
                              clear hst11 hk11 HS10 HK10 HR10 HO10 hW10 a0 a1 a2 af hRl
                              cases f2
                              · skip
                                as_aux_lemma =>
                                  go_upto_region 12 with (fail)
                                  obtain ⟨wX, rfl⟩ : ∃ wX : World, wX = w11 := ⟨_, rfl⟩
                                  have HSX := HS11
                                  have HKX := HK11
                                  have HRX := HR11
                                  have HOX := HO11
                                  clear HS11 HK11 HR11 HO11
                                  obtain ⟨hDl, z0, z1, z2, z3, z4, zf⟩ := HRX.out.box
                                  have hk12 : Keeps S wX (wX.alloc (.cells #[.string ⟨nm.toArray⟩, .int .i64 pr, .bool false] 120)) := (Keeps.refl _ _).alloc _
                                  have HOA := Lib.hid (HOX.out.alloc (.cells #[.string ⟨nm.toArray⟩, .int .i64 pr, .bool false] 120))
                                  have HRA := Lib.hid (HRX.out.keeps hk12 hFS hDS hBS)
                                  have hvF : v.ownBlock ≠ some F := fun e => by have := (HOX.out.lt _ e).1; omega
                                  have hvD : v.ownBlock ≠ some D := fun e => by have := (HOX.out.lt _ e).1; omega
                                  have hvB : v.ownBlock ≠ some B := fun e => by have := (HOX.out.lt _ e).1; omega
                                  have hvS : ∀ b, v.ownBlock = some b → WB ≤ b := fun b e => (HOX.out.lt _ e).1
                                  clear hk12
                                  as_aux_lemma =>
                                    go_wp2_with (first | (refine wpList_val rfl (bs_r1 _ _ _ 45 ⟨nm.toArray⟩ pr false rfl rfl) ?_) | (at_builtin; refine wpList_append_own_at _ rfl (.tmp 44) (.tmp 46) 61 rfl WB 120 i1 _ 3 32 Tryz.underlying61 hi1 hy0 hy1 hy2 rfl (by omega) v rates.length _ rfl HOA.out ⟨wX.heap.size, 0, none⟩ 1 1 [.string ⟨nm.toArray⟩, .int .i64 pr, .bool false] rfl rfl (fun j u hj => by rw [add0]; match j, hj with | 0, hj => simp at hj; subst hj; go_simp | 1, hj => simp at hj; subst hj; go_simp | 2, hj => simp at hj; subst hj; go_simp) (by simp [Value.oneCell']) (by simp only [maxLen]; omega) (by omega) (by simp; omega) ?_; intro v12 w12 hown12 hgr12 _ _; have HR12 := Lib.hid (HRA.out.grown hgr12 hvF hvD hvB); obtain ⟨a12, c12, rfl⟩ := own_shape hown12; clear z0 z1 z2 z3 z4 zf; obtain ⟨hDm, z0, z1, z2, z3, z4, zf⟩ := HR12.out.box))
                                    have HK12 : Hid (Keeps S w w12) := HKX.out.grown hgr12 (fun b e => Nat.le_trans hwW (hvS b e))
                                    have HS12 : Hid (StreamOk w12 S (k + 4 + 3 * i + 3)) := HSX.out.upto (upto_grown hgr12 (by omega) (fun b e => by have := hvS b e; omega))
                                    have hW12 : WB ≤ w12.heap.size := by have := hgr12.size; simp at this; omega
                                    have HO12 : Hid (w12.ownsRow WB 120 3 (.slice a12 (rates.length + 1) c12) (rates ++ [Rate.mk nm pr false]).length (((rates ++ [Rate.mk nm pr false]).map Rate.cells).flatten)) := by
                                      show World.ownsRow _ _ _ _ _ _ _
                                      rw [rcells_snoc, List.length_append]
                                      exact hown12
                                    have hv12 : (Value.slice a12 (rates.length + 1) c12).ownBlock ≠ some D := fun e => by have := (HO12.out.lt _ e).1; omega
                                    go_roundw
                                    case rel => exact ⟨i + 1, .slice a12 (rates.length + 1) c12, rates ++ [Rate.mk nm pr false], by omega, by go_num, by rw [List.length_append, List.length_singleton]; omega, rates_snoc HRI.out hpl (by show -2000000000000 ≤ (pr : Int); omega) (by show (pr : Int) ≤ 2000000000000; omega), own_set HO12.out hv12, by simpa using hW12, HR12.out.setv hDB _, (HS12.out.mono (by omega)).upto ((Below.refl (S + 1) w12).setCell (p := ⟨D, 4, none⟩) (by show S + 1 ≤ D; omega) _), HK12.out.setCell_new (p := ⟨D, 4, none⟩) hDw _⟩
                                    case measure => simp [intOf]; omega
                              · have HSY : Hid (StreamOk ((w11.setCell ⟨R, 1, none⟩ (.int .i64 0)).setCell ⟨R, 2, none⟩ (.bool true)) S (k + 4 + 3 * i + 3)) := HS11.out.upto (((Below.refl (S + 1) w11).setCell (p := ⟨R, 1, none⟩) (by show S + 1 ≤ R; omega) _).setCell (p := ⟨R, 2, none⟩) (by show S + 1 ≤ R; omega) _)
                                have HKY : Hid (Keeps S w ((w11.setCell ⟨R, 1, none⟩ (.int .i64 0)).setCell ⟨R, 2, none⟩ (.bool true))) := (HK11.out.setCell_new (p := ⟨R, 1, none⟩) hRw _).setCell_new (p := ⟨R, 2, none⟩) hRw _
                                have HRY : Hid (RD S F D B n names f ps pl pt v ((w11.setCell ⟨R, 1, none⟩ (.int .i64 0)).setCell ⟨R, 2, none⟩ (.bool true))) := (HR11.out.far hRD hRB _).far hRD hRB _
                                have HOY : Hid (((w11.setCell ⟨R, 1, none⟩ (.int .i64 0)).setCell ⟨R, 2, none⟩ (.bool true)).ownsRow WB 120 3 v rates.length ((rates.map Rate.cells).flatten)) := own_set (own_set HO11.out hRv) hRv
                                have g0 : ((w11.setCell ⟨R, 1, none⟩ (.int .i64 0)).setCell ⟨R, 2, none⟩ (.bool true)).cell? ⟨R, 0, none⟩ = some (.string ⟨nm.toArray⟩) := by go_simp
                                have g1 : ((w11.setCell ⟨R, 1, none⟩ (.int .i64 0)).setCell ⟨R, 2, none⟩ (.bool true)).cell? ⟨R, 1, none⟩ = some (.int .i64 0) := by go_simp
                                have g2 : ((w11.setCell ⟨R, 1, none⟩ (.int .i64 0)).setCell ⟨R, 2, none⟩ (.bool true)).cell? ⟨R, 2, none⟩ = some (.bool true) := by go_simp
                                have hWX : WB ≤ ((w11.setCell ⟨R, 1, none⟩ (.int .i64 0)).setCell ⟨R, 2, none⟩ (.bool true)).heap.size := by simpa using hW11
                                have hRX : R < ((w11.setCell ⟨R, 1, none⟩ (.int .i64 0)).setCell ⟨R, 2, none⟩ (.bool true)).heap.size := by simpa using hR11
                                skip
                                as_aux_lemma =>
                                  go_upto_region 12 with (fail)
                                  clear HS11 HK11 HR11 HO11 e0 e1 e2 ef hW11 hR11
                                  generalize (w11.setCell ⟨R, 1, none⟩ (.int .i64 0)).setCell ⟨R, 2, none⟩ (.bool true) = wX at HSY HKY HRY HOY g0 g1 g2 hWX hRX ⊢
                                  have HSX := HSY
                                  have HKX := HKY
                                  have HRX := HRY
                                  have HOX := HOY
                                  have e0 := g0
                                  have e1 := g1
                                  have e2 := g2
                                  clear HSY HKY HRY HOY g0 g1 g2
                                  obtain ⟨hDl, z0, z1, z2, z3, z4, zf⟩ := HRX.out.box
                                  have hk12 : Keeps S wX (wX.alloc (.cells #[.string ⟨nm.toArray⟩, .int .i64 0, .bool true] 120)) := (Keeps.refl _ _).alloc _
                                  have HOA := Lib.hid (HOX.out.alloc (.cells #[.string ⟨nm.toArray⟩, .int .i64 0, .bool true] 120))
                                  have HRA := Lib.hid (HRX.out.keeps hk12 hFS hDS hBS)
                                  have hvF : v.ownBlock ≠ some F := fun e => by have := (HOX.out.lt _ e).1; omega
                                  have hvD : v.ownBlock ≠ some D := fun e => by have := (HOX.out.lt _ e).1; omega
                                  have hvB : v.ownBlock ≠ some B := fun e => by have := (HOX.out.lt _ e).1; omega
                                  have hvS : ∀ b, v.ownBlock = some b → WB ≤ b := fun b e => (HOX.out.lt _ e).1
                                  clear hk12
                                  as_aux_lemma =>
                                    go_wp2_with (first | (refine wpList_val rfl (bs_r1 _ _ _ 45 ⟨nm.toArray⟩ 0 true rfl rfl) ?_) | (at_builtin; refine wpList_append_own_at _ rfl (.tmp 44) (.tmp 46) 61 rfl WB 120 i1 _ 3 32 Tryz.underlying61 hi1 hy0 hy1 hy2 rfl (by omega) v rates.length _ rfl HOA.out ⟨wX.heap.size, 0, none⟩ 1 1 [.string ⟨nm.toArray⟩, .int .i64 0, .bool true] rfl rfl (fun j u hj => by rw [add0]; match j, hj with | 0, hj => simp at hj; subst hj; go_simp | 1, hj => simp at hj; subst hj; go_simp | 2, hj => simp at hj; subst hj; go_simp) (by simp [Value.oneCell']) (by simp only [maxLen]; omega) (by omega) (by simp; omega) ?_; intro v12 w12 hown12 hgr12 _ _; have HR12 := Lib.hid (HRA.out.grown hgr12 hvF hvD hvB); obtain ⟨a12, c12, rfl⟩ := own_shape hown12; clear z0 z1 z2 z3 z4 zf; obtain ⟨hDm, z0, z1, z2, z3, z4, zf⟩ := HR12.out.box))
                                    have HK12 : Hid (Keeps S w w12) := HKX.out.grown hgr12 (fun b e => Nat.le_trans hwW (hvS b e))
                                    have HS12 : Hid (StreamOk w12 S (k + 4 + 3 * i + 3)) := HSX.out.upto (upto_grown hgr12 (by omega) (fun b e => by have := hvS b e; omega))
                                    have hW12 : WB ≤ w12.heap.size := by have := hgr12.size; simp at this; omega
                                    have HO12 : Hid (w12.ownsRow WB 120 3 (.slice a12 (rates.length + 1) c12) (rates ++ [Rate.mk nm 0 true]).length (((rates ++ [Rate.mk nm 0 true]).map Rate.cells).flatten)) := by
                                      show World.ownsRow _ _ _ _ _ _ _
                                      rw [rcells_snoc, List.length_append]
                                      exact hown12
                                    have hv12 : (Value.slice a12 (rates.length + 1) c12).ownBlock ≠ some D := fun e => by have := (HO12.out.lt _ e).1; omega
                                    go_roundw
                                    case rel => exact ⟨i + 1, .slice a12 (rates.length + 1) c12, rates ++ [Rate.mk nm 0 true], by omega, by go_num, by rw [List.length_append, List.length_singleton]; omega, rates_snoc HRI.out hpl (by show -2000000000000 ≤ (0 : Int); omega) (by show (0 : Int) ≤ 2000000000000; omega), own_set HO12.out hv12, by simpa using hW12, HR12.out.setv hDB _, (HS12.out.mono (by omega)).upto ((Below.refl (S + 1) w12).setCell (p := ⟨D, 4, none⟩) (by show S + 1 ≤ D; omega) _), HK12.out.setCell_new (p := ⟨D, 4, none⟩) hDw _⟩
                                    case measure => simp [intOf]; omega
                    · obtain rfl : i = n := by omega
                      obtain ⟨ra, rc, rfl⟩ := own_shape HOW.out
                      obtain ⟨hDl, z0, z1, z2, z3, z4, zf⟩ := HR.out.box
                      have HTH := Lib.hid HR.out.room.th
                      have HC9 := Lib.hid (World.rangeAt_setCells_same wr F 0 [.int .i64 f, .int .i64 ps, .int .i64 pl, .int .i64 pt, .slice ra rates.length rc] HTH.out)
                      have HS9 : Hid (StreamOk (wr.setCells F 0 [.int .i64 f, .int .i64 ps, .int .i64 pl, .int .i64 pt, .slice ra rates.length rc]) S (k + 43)) := (HSr.out.mono (by omega)).upto (below_setCells hSF _ _ _)
                      have HK9 : Hid (Keeps S w (wr.setCells F 0 [.int .i64 f, .int .i64 ps, .int .i64 pl, .int .i64 pt, .slice ra rates.length rc])) := keeps_setCells (Nat.le_of_eq HFW.out.symm) _ _ _ HKr.out
                      have hvF : (Value.slice ra rates.length rc).ownBlock ≠ some F := fun e => by have := (HOW.out.lt _ e).1; omega
                      have HO9 : Hid ((wr.setCells F 0 [.int .i64 f, .int .i64 ps, .int .i64 pl, .int .i64 pt, .slice ra rates.length rc]).ownsRow WB 120 3 (.slice ra rates.length rc) rates.length ((rates.map Rate.cells).flatten)) := own_set (own_set (own_set (own_set (own_set HOW.out hvF) hvF) hvF) hvF) hvF
                      clear HR HOW HSr HKr HSH
                      as_aux_lemma =>
                        go_wp2_with (refine wpList_store_mid rfl 63 (.tmp 4) (.tmp 50) rfl F 0 #[.int .i64 f, .int .i64 ps, .int .i64 pl, .int .i64 pt, .slice ra rates.length rc] rfl rfl HTH.out Tryz.deckSize (by simp [Value.oneCell']) ?_; generalize World.setCells wr F 0 _ = W9 at HC9 HS9 HK9 HO9 ⊢)
                        refine bodyPost_ret (?_ : _ = Result.ok (.agg #[.int .i64 f, .int .i64 ps, .int .i64 pl, .int .i64 pt, .slice ra rates.length rc]) _) rfl ?_
                        · exact results_cell1 (t := 4) (by rfl) _ _ _ Tryz.isAgg63 Tryz.sizeOf63 (by rfl) [.int .i64 f, .int .i64 ps, .int .i64 pl, .int .i64 pt, .slice ra rates.length rc] rfl (fun j v hj => by have := HC9.out j v hj; rw [Nat.zero_add] at this; exact this)
                        exact ⟨⟨f, ps, pl, pt, ra, rates.length, rc, rates⟩, rfl, ⟨own_le HO9.out hwW, ⟨by show rates.length ≤ 100; omega, HRI.out⟩, hf, (show -2000000000000 ≤ ps ∧ ps ≤ 2000000000000 from ⟨by omega, by omega⟩), (show -2000000000000 ≤ pl ∧ pl ≤ 2000000000000 from ⟨by omega, by omega⟩), (show -2000000000000 ≤ pt ∧ pt ≤ 2000000000000 from ⟨by omega, by omega⟩)⟩, by show rates.length ≤ 13; omega, HS9.out, HK9.out⟩
end Go.Proofs.YtppinnjdaoaddaaGreatDoor
