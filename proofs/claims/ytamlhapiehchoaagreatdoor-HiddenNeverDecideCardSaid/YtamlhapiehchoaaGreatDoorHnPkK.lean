/- What is proved here: lemmas and contracts for the statement, put together out of smaller texts (RegionNoS, DplHit, HidFin). No condition beyond those stated. -/
import Derived.Test.YtamlhapiehchoaaGreatDoorHnPkC
import Derived.Test.YtamlhapiehchoaaGreatDoorHnPkJ
import Derived.Test.YtamlhapiehchoaaGreatDoorHnPkB
set_option linter.unusedVariables false
namespace Go.Proofs.YtamlhapiehchoaaGreatDoor.NoS
open Go.RowKit

/-- Nothing that was there has turned. -/
def Keeps (_ : Nat) (w w' : World) : Prop := Below w.heap.size w w'
def StreamOk (_ : World) (_ _ : Nat) : Prop := True
theorem Keeps.below {S : Nat} {w w' : World} (h : Keeps S w w') : Below w.heap.size w w' := h
theorem Keeps.size {S : Nat} {w w' : World} (h : Keeps S w w') : w.heap.size ≤ w'.heap.size := Below.size h
theorem Keeps.refl (S : Nat) (w : World) : Keeps S w w := Below.refl _ _
theorem Keeps.trans {S : Nat} {a b c : World} (h : Keeps S a b) (k : Keeps S b c) : Keeps S a c := ext_trans h k
theorem Keeps.alloc {S : Nat} {a w : World} (h : Keeps S a w) (o : Obj) : Keeps S a (w.alloc o) := ext_alloc h
theorem Keeps.cell {S : Nat} {w w' : World} (h : Keeps S w w') {p : Addr} (hp : p.block < w.heap.size) : w'.cell? p = w.cell? p := Below.cell h hp
theorem Keeps.frozen {S : Nat} {w w' : World} (h : Keeps S w w') {p : Addr} (hp : p.block < w.heap.size) : w'.frozen? p = w.frozen? p := Below.frozen h hp
theorem Keeps.of_below {S : Nat} {w w' : World} (h : Below w.heap.size w w') : Keeps S w w' := h
theorem StreamOk.below {w w' : World} {S k : Nat} (h : StreamOk w S k) (b : Below w.heap.size w w') : StreamOk w' S k := trivial
theorem StreamOk.mono {w : World} {S k k' : Nat} (h : StreamOk w S k) (hk : k ≤ k') : StreamOk w S k' := trivial

section
variable {P : Program} {ops : Array Oper} {Q : Exit → Act → World → Prop}

/-- What is known of an operation's value: a property of the value; or a slice over a block of its own, whose cells are listed. -/
inductive Spec where
  | val (p : Value → Prop)
  | arr (n : Nat) (p : List Value → Prop)
  | mem (p : World → Value → Prop)

def Spec.holds (S : Nat) (w : World) : Spec → Value → Prop
  | .val p, v => p v
  | .arr n p, v => ∃ b vs, v = .slice (some ⟨b, 0, none⟩) n n ∧ p vs ∧ b < w.heap.size ∧ ∀ (j : Nat) (u : Value), vs[j]? = some u → w.cell? ⟨b, j, none⟩ = some u
  | .mem p, v => ∀ w', Keeps S w w' → p w' v

theorem Spec.holds.keeps {S : Nat} {w w' : World} {s : Spec} {v : Value} (h : s.holds S w v) (k : Keeps S w w') : s.holds S w' v := by
  cases s with
  | val p => exact h
  | arr n p =>
    obtain ⟨b, vs, hv, hp, hl, hc⟩ := h
    exact ⟨b, vs, hv, hp, Nat.lt_of_lt_of_le hl k.size, fun j u hj => (k.cell (p := ⟨b, j, none⟩) hl).trans (hc j u hj)⟩
  | mem p => exact fun w'' k' => h w'' (k.trans k')

def GenB (S k : Nat) (w0 : World) (c : Nat) (w : World) : Prop := Keeps S w0 w ∧ StreamOk w S (k + c)

/-- What is to be shown of operation i: it may look at what it waits for, and at what was there. -/
def GenStep (P : Program) (ops : Array Oper) (Q : Exit → Act → World → Prop) (a0 : Act) (S k : Nat) (w0 : World) (specs : List Spec) (total : Nat) (calls : List Nat) (i : Nat) : Prop :=
  ∀ (o : Oper) (s : Spec) (a : Act) (w : World) (c : Nat), ops[i]? = some o → specs[i]? = some s → Keeps S w0 w → StreamOk w S (k + c) → c + (if calls.contains i then 1 else 0) ≤ total →
    (∀ t, (∀ j, dstOf ops j ≠ some t) → a.eval (.tmp t) = a0.eval (.tmp t)) →
    (∀ e ∈ o.after, Region.binds .any e = true → ∀ t s', dstOf ops e.on = some t → specs[e.on]? = some s' → s'.holds S w (a.eval (.tmp t))) →
    ∀ K : Act → World → Prop, (∀ v w', s.holds S w' v → Keeps S w w' → StreamOk w' S (k + (c + if calls.contains i then 1 else 0)) → K (a.put o.dst v) w') → Oper.wp P o a w K Q

/-- The operations' temporaries are different ones and lie in the frame; the first ones have no guard and each a spec. -/
def genChk (ops : Array Oper) (size m : Nat) (calls : List Nat) : Bool :=
  ((List.range ops.size).all fun i => (List.range ops.size).all fun j => i == j || (match dstOf ops i with | none => true | some d => decide (d < size) && dstOf ops j != some d)) &&
  ((List.range m).all fun i => ((ops[i]?).map fun o => o.guard.isNone).getD false) && decide (m ≤ ops.size) && decide (1 < ops.size) && decide calls.Nodup && calls.all (fun i => decide (i < m))

theorem countP_set (calls : List Nat) (hn : calls.Nodup) (f : Nat → Bool) (i : Nat) (hu : f i = false) : calls.countP (fun j => if j = i then true else f j) = calls.countP f + if calls.contains i then 1 else 0 := by
  induction calls with
  | nil => simp
  | cons x xs ih =>
    have ih := ih (List.nodup_cons.1 hn).2
    have hx := (List.nodup_cons.1 hn).1
    by_cases hxi : x = i
    · subst hxi
      have : xs.countP (fun j => if j = x then true else f j) = xs.countP f := by
        refine List.countP_congr fun j hj => ?_
        have : j ≠ x := fun e => hx (e ▸ hj)
        simp [this]
      rw [List.countP_cons, this, List.countP_cons]
      simp [hu]
    · have hc : (x :: xs).contains i = xs.contains i := by simp [Ne.symm hxi]
      rw [hc, List.countP_cons, List.countP_cons, ih]
      simp [hxi]
      omega

theorem gen_any {m : Nat} {a0 : Act} {S k : Nat} {w0 : World} {specs : List Spec} {calls : List Nat} (hc : genChk ops a0.tmps.size m calls = true) (hlen : specs.length = m)
    (hstep : ∀ i, i < m → GenStep P (ops.extract 0 m) Q a0 S k w0 specs calls.length calls i)
    (hend : ∀ (vals : Nat → Value) (w : World), Keeps S w0 w → StreamOk w S (k + calls.length) → (∀ (i : Nat) (s : Spec), specs[i]? = some s → s.holds S w (vals i)) → Q .normal (putSome (ops.extract 0 m) vals (fun _ => true) (List.range m) a0) w) :
    ∀ (fuel : Nat) (l : Array Bool) (vals : Nat → Value) (w : World), l.size = m → Keeps S w0 w → StreamOk w S (k + calls.countP (fun i => l.getD i true)) → (∀ (i : Nat) (s : Spec), l.getD i true = true → specs[i]? = some s → s.holds S w (vals i)) → (l.toList.countP (fun b => !b) ≤ fuel) →
      (∀ i, i < m → ∃ o, (ops.extract 0 m)[i]? = some o ∧ ∀ e ∈ o.after, Region.binds .any e = true → e.on < i) →
      wpAny P .any (ops.extract 0 m) Q fuel l (putSome (ops.extract 0 m) vals (fun i => l.getD i true) (List.range m) a0) w := by
  simp only [genChk, Bool.and_eq_true, List.all_eq_true, List.mem_range, decide_eq_true_eq, Bool.or_eq_true, beq_iff_eq] at hc
  obtain ⟨⟨⟨⟨⟨hdst, hgd⟩, hmn⟩, h1n⟩, hnd⟩, hcm⟩ := hc
  have dsub : ∀ i t, dstOf (ops.extract 0 m) i = some t → dstOf ops i = some t ∧ i < m := by
    intro i t h
    unfold dstOf at *
    by_cases hi : i < m
    · rw [ext_get _ _ _ hi] at h
      exact ⟨h, hi⟩
    · rw [ext_get_no _ _ _ hi] at h; cases h
  have dne : ∀ i j, i ≠ j → ∀ t, dstOf (ops.extract 0 m) j = some t → dstOf (ops.extract 0 m) i ≠ some t := by
    intro i j hij t hj hi
    obtain ⟨hi1, hi2⟩ := dsub i t hi
    obtain ⟨hj1, hj2⟩ := dsub j t hj
    have := (hdst i (by omega) j (by omega)).resolve_left hij
    simp [hi1, hj1] at this
  have dlt : ∀ i t, dstOf (ops.extract 0 m) i = some t → t < a0.tmps.size := by
    intro i t hi
    obtain ⟨hi1, hi2⟩ := dsub i t hi
    have hj : ∃ j, j < ops.size ∧ i ≠ j := if h : i = 0 then ⟨1, by omega, by omega⟩ else ⟨0, by omega, h⟩
    obtain ⟨j, hj, hij⟩ := hj
    have := (hdst i (by omega) j hj).resolve_left hij
    simp [hi1] at this
    exact this.1
  have getl : ∀ (l : Array Bool) i, i < l.size → l.getD i true = true → l.getD i false = true := fun l i hi h => by rw [getD_two hi false true]; exact h
  intro fuel
  induction fuel with
  | zero =>
    intro l vals w hl hk hst hs hf hdown
    have hall : ∀ i, i < m → l.getD i true = true := by
      intro i hi
      rcases Bool.eq_false_or_eq_true (l.getD i true) with h | h
      · exact h
      · exfalso
        have : 0 < l.toList.countP (fun b => !b) := List.countP_pos_iff.2 ⟨false, by
          have hlt : i < l.size := by omega
          have : l[i] = false := by simpa [hlt] using h
          rw [← this]; simp, rfl⟩
        omega
    refine ⟨?_, ?_⟩
    · refine List.eq_nil_iff_forall_not_mem.2 fun i hi => ?_
      obtain ⟨h0, o, ho, _⟩ := mem_ready.1 hi
      have hlt : i < m := by have := (Array.getElem?_eq_some_iff.1 ho).1; simp at this; omega
      rw [hall i hlt] at h0; cases h0
    · have e1 : putSome (ops.extract 0 m) vals (fun i => l.getD i true) (List.range m) a0 = putSome (ops.extract 0 m) vals (fun _ => true) (List.range m) a0 := putSome_congr _ _ (fun i hi => ⟨hall i (List.mem_range.1 hi), fun _ => rfl⟩)
      rw [e1]
      refine hend vals w hk ?_ (fun i s h => hs i s (by
        by_cases hi : i < m
        · exact hall i hi
        · simp [show ¬ i < l.size by omega]) h)
      have : calls.countP (fun i => l.getD i true) = calls.length := List.countP_eq_length.2 (fun i hi => hall i (by simpa using hcm i hi))
      rw [this] at hst; exact hst
  | succ fuel ih =>
    intro l vals w hl hk hst hs hf hdown
    have dn := listed_of_none (ops := ops.extract 0 m) (m := m)
    refine ⟨fun h0 => ?_, fun i hi => ?_⟩
    · have hall : ∀ i, i < m → l.getD i true = true := by
        intro i
        induction i using Nat.strongRecOn with
        | _ i ihi =>
          intro hi
          rcases Bool.eq_false_or_eq_true (l.getD i true) with h | h
          · exact h
          · exfalso
            obtain ⟨o, ho, hd⟩ := hdown i hi
            have : i ∈ Region.ready .any (ops.extract 0 m) l := mem_ready.2 ⟨h, o, ho, fun e he hb => getl l _ (by have := hd e he hb; omega) (ihi e.on (hd e he hb) (by have := hd e he hb; omega))⟩
            rw [h0] at this; cases this
      have e1 : putSome (ops.extract 0 m) vals (fun i => l.getD i true) (List.range m) a0 = putSome (ops.extract 0 m) vals (fun _ => true) (List.range m) a0 := putSome_congr _ _ (fun i hi => ⟨hall i (List.mem_range.1 hi), fun _ => rfl⟩)
      rw [e1]
      refine hend vals w hk ?_ (fun i s h => hs i s (by
        by_cases hi : i < m
        · exact hall i hi
        · simp [show ¬ i < l.size by omega]) h)
      have : calls.countP (fun i => l.getD i true) = calls.length := List.countP_eq_length.2 (fun i hi => hall i (by simpa using hcm i hi))
      rw [this] at hst; exact hst
    · obtain ⟨hun, o, ho, hall⟩ := mem_ready.1 hi
      have him : i < m := by have := (Array.getElem?_eq_some_iff.1 ho).1; simp at this; omega
      have hilt : i < l.size := by omega
      obtain ⟨s, hsi⟩ : ∃ s, specs[i]? = some s := ⟨specs[i]'(by omega), by simp⟩
      have hguard : o.guard = none := by
        have hx := hgd i him
        have : ops[i]? = some o := by rw [ext_get _ _ _ him] at ho; exact ho
        simpa [this] using hx
      have hdo : dstOf (ops.extract 0 m) i = o.dst := by simp [dstOf, ho]
      unfold wpOp
      simp only [ho]
      rw [if_pos (by simp [Region.wanted, hguard])]
      refine Or.inl ?_
      have hcnt := countP_set calls hnd (fun j => l.getD j true) i hun
      refine hstep i him o s _ w (calls.countP fun j => l.getD j true) ho hsi hk hst ?_ ?_ ?_ _ ?_
      · rw [← hcnt]; exact List.countP_le_length
      · intro t ht
        exact putSome_eval_other _ _ (fun j _ => ht j)
      · intro e he hb t s' ht hs'
        have hon := hall e he hb
        have hlt : e.on < m := (dsub e.on t ht).2
        have hon' : l.getD e.on true = true := by rw [getD_two (by omega) true false]; exact hon
        rw [putSome_eval (i := e.on) _ _ List.nodup_range (List.mem_range.2 hlt) hon' ht (dlt _ _ ht) (fun j _ hj => fun h2 => dne e.on j (Ne.symm hj) t h2 ht)]
        exact hs e.on s' hon' hs'
      · intro v w' hv hkw hst'
        have e2 := putSome_set (ops := ops.extract 0 m) (vals := vals) (listed := fun j => l.getD j true) (i := i) v (List.range m) a0 List.nodup_range (List.mem_range.2 him) hun (fun j _ hj t ht => dne i j (Ne.symm hj) t ht)
        have e3 : (fun j => if j = i then true else l.getD j true) = fun j => (l.setIfInBounds i true).getD j true := by
          funext j
          by_cases hji : j = i
          · subst hji; simp [hilt]
          · simp only [hji, if_false]; rw [getD_set_ne true (Ne.symm hji)]
        rw [← hdo, ← e2, e3]
        refine ih _ _ w' (by simpa using hl) (hk.trans hkw) ?_ ?_ ?_ hdown
        · rw [← e3, hcnt]; exact hst'
        · intro j s' hj hs'
          by_cases hji : j = i
          · subst hji
            rw [hsi] at hs'; cases hs'
            simp only [if_true]; exact hv
          · simp only [hji, if_false]
            rw [getD_set_ne true (Ne.symm hji)] at hj
            exact (hs j s' hj hs').keeps hkw
        · have : (l.setIfInBounds i true).toList.countP (fun b => !b) + 1 = l.toList.countP (fun b => !b) := by
            have hli : l[i] = false := by simpa [hilt] using hun
            have hpos : 0 < l.toList.countP (fun b => !b) := List.countP_pos_iff.2 ⟨false, by rw [← hli]; simp, rfl⟩
            have := List.countP_set (p := fun b : Bool => !b) (l := l.toList) (i := i) (a := true) (by simpa using hilt)
            have e4 : l.toList[i]'(by simpa using hilt) = false := by simpa using hli
            rw [Array.toList_setIfInBounds, this, e4]
            rw [if_pos (by decide : (!false) = true), if_neg (by decide : ¬ (!true) = true)]
            omega
          omega

/-! ### The whole -/

/-- What is to be shown of an operation: it may look at what it waits for, and at what was there. -/
def GenOp (P : Program) (ops : Array Oper) (Q : Exit → Act → World → Prop) (a0 : Act) (S k : Nat) (w0 : World) (specs : List Spec) (calls : List Nat) (i : Nat) (o : Oper) (s : Spec) : Prop :=
  ∀ (a : Act) (w : World) (c : Nat), Keeps S w0 w → StreamOk w S (k + c) → c + (if calls.contains i then 1 else 0) ≤ calls.length →
    (∀ t, ((ops.extract 0 specs.length).all fun o => o.dst != some t) = true → a.eval (.tmp t) = a0.eval (.tmp t)) →
    (∀ (j : Nat) (t : Tmp) (s' : Spec), (o.after.any fun e => Region.binds .any e && e.on == j) = true → dstOf ops j = some t → specs[j]? = some s' → s'.holds S w (a.eval (.tmp t))) →
    ∀ K : Act → World → Prop, (∀ v w', s.holds S w' v → Keeps S w w' → StreamOk w' S (k + (c + if calls.contains i then 1 else 0)) → K (a.put o.dst v) w') → Oper.wp P o a w K (tailQ P ops Q specs.length)

def GenOps (P : Program) (ops : Array Oper) (Q : Exit → Act → World → Prop) (a0 : Act) (S k : Nat) (w0 : World) (specs : List Spec) (calls : List Nat) : Nat → List Oper → List Spec → Prop
  | i, o :: os, s :: ss => GenOp P ops Q a0 S k w0 specs calls i o s ∧ GenOps P ops Q a0 S k w0 specs calls (i + 1) os ss
  | _, _, _ => True

/-- For all values that the specs allow, put into the frame. -/
def ForVals (S : Nat) (w : World) (K : Act → Prop) : List (Option Tmp) → List Spec → Act → Prop
  | d :: ds, s :: ss, a => ∀ v, s.holds S w v → ForVals S w K ds ss (a.put d v)
  | _, _, a => K a

def downChk (ops : Array Oper) (m : Nat) : Bool := (List.range m).all fun i => ((ops[i]?).map fun o => o.after.all fun e => !Region.binds .any e || decide (e.on < i)).getD false

theorem genOps_at {a0 : Act} {S k : Nat} {w0 : World} {specs : List Spec} {calls : List Nat} : ∀ (i : Nat) (os : List Oper) (ss : List Spec), GenOps P ops Q a0 S k w0 specs calls i os ss → ∀ (j : Nat) (o : Oper) (s : Spec), os[j]? = some o → ss[j]? = some s → GenOp P ops Q a0 S k w0 specs calls (i + j) o s
  | i, o :: os, s :: ss, h, 0, _, _, ho, hs => by simp at ho hs; subst ho; subst hs; exact h.1
  | i, o :: os, s :: ss, h, j + 1, o', s', ho, hs => by
    have := genOps_at (i + 1) os ss h.2 j o' s' (by simpa using ho) (by simpa using hs)
    rw [show i + (j + 1) = i + 1 + j by omega]; exact this
  | i, [], _, _, j, _, _, ho, _ => by simp at ho
  | i, _ :: _, [], _, j, _, _, _, hs => by simp at hs

theorem forVals_all {S : Nat} {w : World} {K : Act → Prop} {vals : Nat → Value} {ops : Array Oper} : ∀ (ss : List Spec) (i : Nat) (a : Act), ForVals S w K ((List.range' i ss.length).map (dstOf ops)) ss a → (∀ (j : Nat) (s : Spec), ss[j]? = some s → s.holds S w (vals (i + j))) → K (putSome ops vals (fun _ => true) (List.range' i ss.length) a)
  | [], i, a, h, _ => h
  | s :: ss, i, a, h, hs => by
    have h1 : ForVals S w K ((List.range' (i + 1) ss.length).map (dstOf ops)) ss (a.put (dstOf ops i) (vals i)) := h (vals i) (hs 0 s rfl)
    have := forVals_all ss (i + 1) _ h1 (fun j s' hj => by have := hs (j + 1) s' (by simpa using hj); rwa [show i + (j + 1) = i + 1 + j by omega] at this)
    exact this

/-- **A region that draws its order, in which a stream hands out numbers**: shown for all orders at once; what comes behind the first operations goes in the text's order. -/
theorem region_gen {L : List Oper} {id : Nat} {a0 : Act} {w : World} (S k m : Nat) (specs : List Spec) (calls : List Nat) (ds : List (Option Tmp)) (hm : P.follows .mixedOrders = true) (hc : genChk L.toArray a0.tmps.size m calls = true) (ht : tailChk L.toArray m = true) (hd : downChk L.toArray m = true) (hlen : specs.length = m)
    (hds : (List.range m).map (dstOf L.toArray) = ds) (h0 : StreamOk w S k)
    (hstep : GenOps P L.toArray Q a0 S k w.drew specs calls 0 (L.take m) specs)
    (hend : ∀ w', Keeps S w.drew w' → StreamOk w' S (k + calls.length) → ForVals S w' (fun a => wpList P L.toArray Q (L.drop m) a w') ds specs a0) : (Code.region id L.toArray true).wp P Q a0 w := by
  subst hlen
  have hc0 := hc
  simp only [genChk, Bool.and_eq_true, List.all_eq_true, List.mem_range, decide_eq_true_eq] at hc0
  obtain ⟨⟨⟨⟨⟨_, hgd⟩, hmn⟩, h1n⟩, hnd⟩, hcm⟩ := hc0
  have hmn' : specs.length ≤ L.length := by simpa using hmn
  have hdown : ∀ i, i < specs.length → ∃ o, (L.toArray.extract 0 specs.length)[i]? = some o ∧ ∀ e ∈ o.after, Region.binds .any e = true → e.on < i := by
    intro i hi
    have h := List.all_eq_true.1 hd i (List.mem_range.2 hi)
    rw [ext_get _ _ _ hi]
    cases ho : L.toArray[i]? with
    | none => rw [ho] at h; cases h
    | some o =>
      rw [ho] at h
      simp only [Option.map_some, Option.getD_some] at h
      refine ⟨o, rfl, fun e he hb => ?_⟩
      have h1 := Array.all_eq_true_iff_forall_mem.1 h e he
      simpa [hb] using h1
  have tailNone : ∀ (k' : Nat) (o : Oper), specs.length ≤ k' → L.toArray[k']? = some o → o.guard = none := by
    intro k' o hk' ho
    have hlt := (Array.getElem?_eq_some_iff.1 ho).1
    have h := List.all_eq_true.1 ht k' (List.mem_range.2 hlt)
    simp only [Bool.or_eq_true, decide_eq_true_eq, Bool.and_eq_true] at h
    have h2 := (h.resolve_left (by omega)).2
    rw [ho] at h2
    simpa using h2
  have toTail : ∀ (l : List Oper), (∀ o ∈ l, o.guard = none) → ∀ a w, wpList P L.toArray Q l a w → tailQ.wpTail P Q l a w := by
    intro l
    induction l with
    | nil => intro _ a w h; exact h
    | cons o l ih =>
      intro hg a w h
      unfold wpList at h
      rw [if_pos (by simp [Region.wanted, hg o List.mem_cons_self])] at h
      exact h.imp (Oper.wp_mono (fun a w h => ih (fun o ho => hg o (List.mem_cons_of_mem _ ho)) a w h)) (fun h => h)
  refine wp_region_any hm ?_
  refine tail_any specs.length ht (L.length - specs.length) specs.length (by simp; omega) (Nat.le_refl _) a0 _ ?_
  have dEq : ∀ j, j < specs.length → dstOf (L.toArray.extract 0 specs.length) j = dstOf L.toArray j := fun j hj => by unfold dstOf; rw [ext_get _ _ _ hj]
  have dLt : ∀ j t, dstOf (L.toArray.extract 0 specs.length) j = some t → j < specs.length := fun j t h => by
    rcases Nat.lt_or_ge j specs.length with h' | h'
    · exact h'
    · unfold dstOf at h; rw [ext_get_no _ _ _ (by omega)] at h; cases h
  have g := gen_any (P := P) (ops := L.toArray) (Q := tailQ P L.toArray Q specs.length) (m := specs.length) (a0 := a0) (S := S) (k := k) (w0 := w.drew) (specs := specs) (calls := calls) hc rfl ?_ ?_ specs.length (Array.replicate specs.length false) (fun _ => undef) w.drew (by simp) (Keeps.refl _ _) ?_ ?_ ?_ hdown
  · have e0 : putSome (L.toArray.extract 0 specs.length) (fun _ => undef) (fun i => (Array.replicate specs.length false).getD i true) (List.range specs.length) a0 = a0 := by
      have : ∀ (l : List Nat), (∀ i ∈ l, i < specs.length) → ∀ a, putSome (L.toArray.extract 0 specs.length) (fun _ => undef) (fun i => (Array.replicate specs.length false).getD i true) l a = a := by
        intro l
        induction l with
        | nil => intro _ a; rfl
        | cons j l ih =>
          intro hl a
          have hj := hl j List.mem_cons_self
          have ih' := ih (fun i hi => hl i (List.mem_cons_of_mem _ hi))
          simp only [putSome, List.foldl_cons] at ih' ⊢
          rw [show (Array.replicate specs.length false).getD j true = false by simp [hj]]
          exact ih' a
      exact this _ (fun i hi => List.mem_range.1 hi) a0
    rw [e0] at g
    exact g
  · intro i hi o s a w' c ho hs hk hst hcc hfr hdp K hK
    have hoL : L[i]? = some o := by rw [ext_get _ _ _ hi] at ho; simpa using ho
    have st := genOps_at 0 _ _ hstep i o s (by rw [List.getElem?_take_of_lt hi]; exact hoL) hs
    rw [Nat.zero_add] at st
    refine st a w' c hk hst hcc (fun t ht => hfr t (fun j hj => ?_)) (fun j t s' hj ht hs' => ?_) K hK
    · unfold dstOf at hj
      cases hoj : (L.toArray.extract 0 specs.length)[j]? with
      | none => rw [hoj] at hj; cases hj
      | some oj =>
        rw [hoj] at hj
        have := Array.all_eq_true_iff_forall_mem.1 ht oj (Array.mem_of_getElem? hoj)
        simp at this hj
        exact this hj
    · obtain ⟨e, he, hb⟩ := Array.any_eq_true'.1 hj
      simp only [Bool.and_eq_true, beq_iff_eq] at hb
      obtain ⟨hb, rfl⟩ := hb
      have hlt : e.on < specs.length := (List.getElem?_eq_some_iff.1 hs').1
      exact hdp e he hb t s' (by rw [dEq _ hlt]; exact ht) hs'
  · intro vals w' hk hst hs
    have h := hend w' hk hst
    subst hds
    have e1 : putSome (L.toArray.extract 0 specs.length) vals (fun _ => true) (List.range specs.length) a0 = putSome L.toArray vals (fun _ => true) (List.range specs.length) a0 := by
      have : ∀ (l : List Nat), (∀ i ∈ l, i < specs.length) → ∀ a, putSome (L.toArray.extract 0 specs.length) vals (fun _ => true) l a = putSome L.toArray vals (fun _ => true) l a := by
        intro l
        induction l with
        | nil => intro _ a; rfl
        | cons j l ih =>
          intro hl a
          have ih' := ih (fun i hi => hl i (List.mem_cons_of_mem _ hi))
          simp only [putSome, List.foldl_cons] at ih' ⊢
          rw [dEq j (hl j List.mem_cons_self)]
          exact ih' _
      exact this _ (fun i hi => List.mem_range.1 hi) a0
    rw [e1]
    have h2 := forVals_all (S := S) (w := w') (vals := vals) (ops := L.toArray) (K := fun a => wpList P L.toArray Q (L.drop specs.length) a w') specs 0 a0 (by rw [← List.range_eq_range']; exact h) (fun j s hj => by rw [Nat.zero_add]; exact hs j s hj)
    rw [← List.range_eq_range'] at h2
    refine toTail _ (fun o ho => ?_) _ _ h2
    obtain ⟨j, hj⟩ := List.getElem?_of_mem ho
    rw [List.getElem?_drop] at hj
    exact tailNone _ o (Nat.le_add_right _ _) (by simpa using hj)
  · have : calls.countP (fun i => (Array.replicate specs.length false).getD i true) = 0 := List.countP_eq_zero.2 (fun i hi => by
      have := hcm i hi
      simp [this])
    rw [this]
    exact h0
  · intro i s h hs
    have hlt := (List.getElem?_eq_some_iff.1 hs).1
    simp [hlt] at h
  · exact Nat.le_trans List.countP_le_length (by simp)

theorem own_slice {w : World} {base : Nat} {e : TypeId} {size : Nat} {v : Value} {n : Nat} {xs : List Value} (h : w.ownsRow base e size v n xs) : ∃ a c, v = .slice a n c := by
  rcases h.2 with ⟨rfl, rfl⟩ | ⟨g, cap, cur, rfl, _⟩
  · exact ⟨none, 0, rfl⟩
  · exact ⟨_, _, rfl⟩
theorem addr_add0 (b j : Nat) : (⟨b, 0, none⟩ : Addr).add j = ⟨b, j, none⟩ := by unfold Addr.add; split <;> simp_all

/-! ### One operation -/
/-- A new block with such cells. -/
theorem gen_alloc {o : Oper} {a : Act} {w : World} {K : Act → World → Prop} {S k n : Nat} {p : List Value → Prop} (cs : Array Value) (ty : TypeId) (h : (execOp a.eval o).run P w = .ok (.value (.slice (some ⟨w.heap.size, 0, none⟩) n n)) (w.alloc (.cells cs ty))) (hp : p cs.toList) (hst : StreamOk w S k)
    (hK : ∀ v w', (Spec.arr n p).holds S w' v → Keeps S w w' → StreamOk w' S k → K (a.put o.dst v) w') : Oper.wp P o a w K Q := by
  unfold Oper.wp; rw [h]
  refine hK _ _ ⟨w.heap.size, cs.toList, rfl, hp, by simp, fun j u hj => ?_⟩ ((Keeps.refl S w).alloc _) (hst.below (ext_alloc (Below.refl _ _)))
  · simpa using hj
/-- A call of a Go function, whose arguments are known. -/
theorem gen_call {o : Oper} {a : Act} {w : World} {K : Act → World → Prop} {R : Ending → World → Prop} (f : Nat) (vs : Array Value) (h : (execOp a.eval o).run P w = .ok (.enter f vs) w) (hc : Calls P f vs w R) (hR : ∀ e w', R e w' → ∃ v, e = .returned v ∧ K (a.put o.dst v) w') : Oper.wp P o a w K Q := by
  unfold Oper.wp; rw [h]
  refine Calls.mono hc fun e w' he => ?_
  obtain ⟨v, rfl, hk⟩ := hR e w' he
  exact hk
theorem gen_pure {o : Oper} {a : Act} {w : World} {K : Act → World → Prop} {v : Value} (h : (execOp a.eval o).run P w = .ok (.value v) w) (hK : K (a.put o.dst v) w) : Oper.wp P o a w K Q := by
  unfold Oper.wp; rw [h]; exact hK
end
section
variable {P : Program} {ops : Array Oper} {Q : Exit → Act → World → Prop}

/-- What is to be shown of an operation: it may look at what it waits for, and at what was there. A call hands out at most W numbers. -/
def LateOp (P : Program) (ops : Array Oper) (Q : Exit → Act → World → Prop) (a0 : Act) (S k W : Nat) (w0 : World) (specs : List Spec) (calls : List Nat) (i : Nat) (o : Oper) (s : Spec) : Prop :=
  ∀ (a : Act) (w : World) (c : Nat), Keeps S w0 w → StreamOk w S (k + W * c) → c + (if calls.contains i then 1 else 0) ≤ calls.length →
    (∀ t, ((ops.extract 0 specs.length).all fun o => o.dst != some t) = true → a.eval (.tmp t) = a0.eval (.tmp t)) →
    (∀ (j : Nat) (t : Tmp) (s' : Spec), (o.after.any fun e => Region.binds .any e && e.on == j) = true → dstOf ops j = some t → specs[j]? = some s' → s'.holds S w (a.eval (.tmp t))) →
    ∀ K : Act → World → Prop, (∀ v w', s.holds S w' v → Keeps S w w' → StreamOk w' S (k + W * (c + if calls.contains i then 1 else 0)) → K (a.put o.dst v) w') → Oper.wp P o a w K Q
def LateOps (P : Program) (ops : Array Oper) (Q : Exit → Act → World → Prop) (a0 : Act) (S k W : Nat) (w0 : World) (specs : List Spec) (calls : List Nat) : Nat → List Oper → List Spec → Prop
  | i, o :: os, s :: ss => LateOp P ops Q a0 S k W w0 specs calls i o s ∧ LateOps P ops Q a0 S k W w0 specs calls (i + 1) os ss
  | _, _, _ => True
theorem lateOps_at {a0 : Act} {S k W : Nat} {w0 : World} {specs : List Spec} {calls : List Nat} : ∀ (i : Nat) (os : List Oper) (ss : List Spec), LateOps P ops Q a0 S k W w0 specs calls i os ss → ∀ (j : Nat) (o : Oper) (s : Spec), os[j]? = some o → ss[j]? = some s → LateOp P ops Q a0 S k W w0 specs calls (i + j) o s
  | i, o :: os, s :: ss, h, 0, _, _, ho, hs => by simp at ho hs; subst ho; subst hs; exact h.1
  | i, o :: os, s :: ss, h, j + 1, o', s', ho, hs => by
    have := lateOps_at (i + 1) os ss h.2 j o' s' (by simpa using ho) (by simpa using hs)
    rw [show i + (j + 1) = i + 1 + j by omega]; exact this
  | i, [], _, _, j, _, _, ho, _ => by simp at ho
  | i, _ :: _, [], _, j, _, _, _, hs => by simp at hs

/-- Operation m waits, through others, for all ahead of it but number d: each of those is waited for by one behind it, up to m, that is not d. -/
def lateChk (ops : Array Oper) (m d : Nat) : Bool :=
  ((List.range m).all fun i => i == d || (List.range (m + 1)).any fun k => decide (i < k) && k != d && ((ops[k]?).map fun o => o.after.any fun e => Region.binds .any e && e.on == i).getD false) && decide (d < m)

theorem late_listed {m d : Nat} (hc : lateChk ops m d = true) {l : Array Bool} (hl : l.size = m + 1) (hcl : ClosedL ops l) {om : Oper} (hom : ops[m]? = some om) (hall : ∀ e ∈ om.after, Region.binds .any e = true → l.getD e.on false = true) : ∀ i, i < m → i ≠ d → l.getD i true = true := by
  simp only [lateChk, Bool.and_eq_true, List.all_eq_true, List.any_eq_true, List.mem_range, decide_eq_true_eq, Bool.or_eq_true, beq_iff_eq, bne_iff_ne] at hc
  have main : ∀ n i, i < m → i ≠ d → m - i ≤ n → l.getD i false = true := by
    intro n
    induction n with
    | zero => intro i hi _ h; omega
    | succ n ih =>
      intro i hi hne h
      obtain ⟨k, hk, ⟨hik, hkd⟩, hk2⟩ := (hc.1 i hi).resolve_left hne
      cases ho : ops[k]? with
      | none => simp [ho] at hk2
      | some o =>
        simp only [ho, Option.map_some, Option.getD_some] at hk2
        obtain ⟨e, he, hb⟩ := Array.any_eq_true'.1 hk2
        simp only [Bool.and_eq_true, beq_iff_eq] at hb
        rcases Nat.lt_or_ge k m with hkm | hkm
        · rw [← hb.2]; exact hcl k o ho (ih k hkm hkd (by omega)) e he hb.1
        · obtain rfl : k = m := by omega
          rw [hom] at ho; cases ho
          rw [← hb.2]; exact hall e he hb.1
  intro i hi hne
  rw [getD_two (by omega) true false]
  exact main (m - i) i hi hne (Nat.le_refl _)

/-- Operation m waits, through others, for all ahead of it. -/
def lateAll (ops : Array Oper) (m : Nat) : Bool :=
  (List.range m).all fun i => (List.range (m + 1)).any fun k => decide (i < k) && ((ops[k]?).map fun o => o.after.any fun e => Region.binds .any e && e.on == i).getD false
theorem allW_listed {m : Nat} (hc : lateAll ops m = true) {l : Array Bool} (hl : l.size = m + 1) (hcl : ClosedL ops l) {om : Oper} (hom : ops[m]? = some om) (hall : ∀ e ∈ om.after, Region.binds .any e = true → l.getD e.on false = true) : ∀ i, i < m → l.getD i true = true := by
  simp only [lateAll, Bool.and_eq_true, List.all_eq_true, List.any_eq_true, List.mem_range, decide_eq_true_eq] at hc
  have main : ∀ n i, i < m → m - i ≤ n → l.getD i false = true := by
    intro n
    induction n with
    | zero => intro i hi h; omega
    | succ n ih =>
      intro i hi h
      obtain ⟨k, hk, hik, hk2⟩ := hc i hi
      cases ho : ops[k]? with
      | none => simp [ho] at hk2
      | some o =>
        simp only [ho, Option.map_some, Option.getD_some] at hk2
        obtain ⟨e, he, hb⟩ := Array.any_eq_true'.1 hk2
        simp only [Bool.and_eq_true, beq_iff_eq] at hb
        rcases Nat.lt_or_ge k m with hkm | hkm
        · rw [← hb.2]; exact hcl k o ho (ih k hkm (by omega)) e he hb.1
        · obtain rfl : k = m := by omega
          rw [hom] at ho; cases ho
          rw [← hb.2]; exact hall e he hb.1
  intro i hi
  rw [getD_two (by omega) true false]
  exact main (m - i) i hi (Nat.le_refl _)

theorem gen_late {m d W : Nat} {a0 : Act} {S k : Nat} {w0 : World} {specs : List Spec} {calls : List Nat} {st od : Oper} (hsz : ops.size = m + 1) (hc : genChk ops a0.tmps.size m calls = true) (hlen : specs.length = m) (hst : ops[m]? = some st) (hsg : st.guard = none) (hod : ops[d]? = some od) (hlate : lateChk ops m d = true) (hdc : d ∉ calls)
    (hdown : ∀ i, i < m + 1 → ∃ o, ops[i]? = some o ∧ ∀ e ∈ o.after, Region.binds .any e = true → e.on < i)
    (hstep : ∀ i o s, i < m → ops[i]? = some o → specs[i]? = some s → LateOp P ops Q a0 S k W w0 specs calls i o s)
    (hA : ∀ (vals : Nat → Value) (w : World), Keeps S w0 w → StreamOk w S (k + W * calls.length) → (∀ (i : Nat) (s : Spec), specs[i]? = some s → s.holds S w (vals i)) → lastQ P st Q .normal (putSome ops vals (fun _ => true) (List.range m) a0) w)
    (hB : lateAll ops m = false → ∀ (vals : Nat → Value) (w : World), Keeps S w0 w → StreamOk w S (k + W * calls.length) → (∀ (i : Nat) (s : Spec), i ≠ d → specs[i]? = some s → s.holds S w (vals i)) → lastQ P st (lastQ P od Q) .normal (putSome ops vals (fun i => i != d) (List.range m) a0) w) :
    ∀ (fuel : Nat) (l : Array Bool) (vals : Nat → Value) (w : World), l.size = m + 1 → l.getD m true = false → ClosedL ops l → Keeps S w0 w → StreamOk w S (k + W * calls.countP (fun i => l.getD i true)) → (∀ (i : Nat) (s : Spec), l.getD i true = true → specs[i]? = some s → s.holds S w (vals i)) → (l.toList.countP (fun b => !b) ≤ fuel) →
      wpAny P .any ops Q fuel l (putSome ops vals (fun i => l.getD i true) (List.range m) a0) w := by
  simp only [genChk, Bool.and_eq_true, List.all_eq_true, List.mem_range, decide_eq_true_eq, Bool.or_eq_true, beq_iff_eq] at hc
  obtain ⟨⟨⟨⟨⟨hdst, hgd⟩, hmn⟩, h1n⟩, hnd⟩, hcm⟩ := hc
  have hdm : d < m := by
    simp only [lateChk, Bool.and_eq_true, decide_eq_true_eq] at hlate
    exact hlate.2
  have dlt' : ∀ i t, dstOf ops i = some t → i < ops.size := by
    intro i t h
    rcases Nat.lt_or_ge i ops.size with h' | h'
    · exact h'
    · unfold dstOf at h; rw [Array.getElem?_eq_none h'] at h; cases h
  have dne : ∀ i j, i ≠ j → ∀ t, dstOf ops j = some t → dstOf ops i ≠ some t := by
    intro i j hij t hj hi
    have := (hdst i (dlt' i t hi) j (dlt' j t hj)).resolve_left hij
    simp [hi, hj] at this
  have dlt : ∀ i t, dstOf ops i = some t → t < a0.tmps.size := by
    intro i t hi
    have hj : ∃ j, j < ops.size ∧ i ≠ j := if h : i = 0 then ⟨1, by omega, by omega⟩ else ⟨0, by omega, h⟩
    obtain ⟨j, hj, hij⟩ := hj
    have := (hdst i (dlt' i t hi) j hj).resolve_left hij
    simp [hi] at this
    exact this.1
  have cntAll : ∀ l : Array Bool, (∀ i, i < m → i ≠ d → l.getD i true = true) → calls.countP (fun i => l.getD i true) = calls.length := fun l h => List.countP_eq_length.2 (fun i hi => h i (by simpa using hcm i hi) (fun e => hdc (e ▸ hi)))
  intro fuel
  induction fuel with
  | zero =>
    intro l vals w hl hlm hcl hk hstm hs hf
    exfalso
    have : 0 < l.toList.countP (fun b => !b) := List.countP_pos_iff.2 ⟨false, by
      have hlt : m < l.size := by omega
      have : l[m] = false := by simpa [hlt] using hlm
      rw [← this]; simp, rfl⟩
    omega
  | succ fuel ih =>
    intro l vals w hl hlm hcl hk hstm hs hf
    have cntSet : ∀ i, i < l.size → l.getD i true = false → (l.setIfInBounds i true).toList.countP (fun b => !b) + 1 = l.toList.countP (fun b => !b) := by
      intro i hilt hun
      have hli : l[i] = false := by simpa [hilt] using hun
      have hpos : 0 < l.toList.countP (fun b => !b) := List.countP_pos_iff.2 ⟨false, by rw [← hli]; simp, rfl⟩
      have := List.countP_set (p := fun b : Bool => !b) (l := l.toList) (i := i) (a := true) (by simpa using hilt)
      have e4 : l.toList[i]'(by simpa using hilt) = false := by simpa using hli
      rw [Array.toList_setIfInBounds, this, e4]
      rw [if_pos (by decide : (!false) = true), if_neg (by decide : ¬ (!true) = true)]
      omega
    refine ⟨fun h0 => ?_, fun i hi => ?_⟩
    · exfalso
      have hall : ∀ i, i < m + 1 → l.getD i true = true := by
        intro i
        induction i using Nat.strongRecOn with
        | _ i ihi =>
          intro hi
          rcases Bool.eq_false_or_eq_true (l.getD i true) with h | h
          · exact h
          · exfalso
            obtain ⟨o, ho, hd⟩ := hdown i hi
            have : i ∈ Region.ready .any ops l := mem_ready.2 ⟨h, o, ho, fun e he hb => by rw [getD_two (by have := hd e he hb; omega) false true]; exact ihi e.on (hd e he hb) (by have := hd e he hb; omega)⟩
            rw [h0] at this; cases this
      rw [hall m (by omega)] at hlm; cases hlm
    · obtain ⟨hun, o, ho, hall⟩ := mem_ready.1 hi
      have hile : i ≤ m := by have := (Array.getElem?_eq_some_iff.1 ho).1; omega
      by_cases him : i = m
      · subst him
        rw [hst] at ho; cases ho
        have hothers := late_listed hlate hl hcl hst hall
        unfold wpOp
        simp only [hst]
        rw [if_pos (by simp [Region.wanted, hsg])]
        rw [cntAll l hothers] at hstm
        by_cases hdl : l.getD d true = true
        · have e1 : putSome ops vals (fun j => l.getD j true) (List.range i) a0 = putSome ops vals (fun _ => true) (List.range i) a0 := putSome_congr _ _ (fun j hj => ⟨by
            by_cases hjd : j = d
            · rw [hjd]; exact hdl
            · exact hothers j (List.mem_range.1 hj) hjd, fun _ => rfl⟩)
          rw [e1]
          refine (hA vals w hk hstm (fun j s h => hs j s ?_ h)).imp (Oper.wp_mono (fun a' w' h' => wpAny_done (ready_all hsz fun j hj => ?_) h' fuel)) id
          · by_cases hjd : j = d
            · rw [hjd]; exact hdl
            · exact hothers j (by have := (List.getElem?_eq_some_iff.1 h).1; omega) hjd
          · by_cases hji : j = i
            · subst hji; simp [hl]
            · rw [getD_set_ne true (Ne.symm hji)]
              by_cases hjd : j = d
              · rw [hjd]; exact hdl
              · exact hothers j (by omega) hjd
        · have hdf : l.getD d true = false := by simpa using hdl
          have hla : lateAll ops i = false := by
            rcases Bool.eq_false_or_eq_true (lateAll ops i) with h | h
            · exact absurd (allW_listed h hl hcl hst hall d hdm) (by rw [hdf]; decide)
            · exact h
          have e1 : putSome ops vals (fun j => l.getD j true) (List.range i) a0 = putSome ops vals (fun j => j != d) (List.range i) a0 := putSome_congr _ _ (fun j hj => ⟨by
            by_cases hjd : j = d
            · rw [hjd, hdf]; simp
            · rw [hothers j (List.mem_range.1 hj) hjd]; simp [hjd], fun _ => rfl⟩)
          rw [e1]
          have hf1 : 1 ≤ fuel := by
            have h1 := cntSet d (by omega) hdf
            have h2 : 0 < (l.setIfInBounds d true).toList.countP (fun b => !b) := List.countP_pos_iff.2 ⟨false, by
              have hlt : i < (l.setIfInBounds d true).size := by simp; omega
              have : (l.setIfInBounds d true)[i] = false := by
                have h3 : (l.setIfInBounds d true).getD i true = false := by rw [getD_set_ne true (by omega)]; exact hlm
                rw [Array.getD_eq_getD_getElem?, Array.getElem?_eq_getElem hlt] at h3
                exact h3
              rw [← this]; exact Array.getElem_mem_toList _, rfl⟩
            omega
          obtain ⟨fuel', rfl⟩ : ∃ f, fuel = f + 1 := ⟨fuel - 1, by omega⟩
          have hg : od.guard = none := by
            have hx := hgd d hdm
            simpa [hod] using hx
          have hset : ∀ j, j < i + 1 → j ≠ d → (l.setIfInBounds i true).getD j true = true := by
            intro j hj hjd
            by_cases hji : j = i
            · subst hji; simp [hl]
            · rw [getD_set_ne true (Ne.symm hji)]; exact hothers j (by omega) hjd
          rcases hB hla vals w hk hstm (fun j s hjd h => hs j s (hothers j (by have := (List.getElem?_eq_some_iff.1 h).1; omega) hjd) h) with hq | hq
          · refine Or.inl ?_
            have conv : Oper.wp P st (putSome ops vals (fun j => j != d) (List.range i) a0) w (fun a' w' => lastQ P od Q .normal a' w') Q := by
              unfold Oper.wp at *
              generalize (execOp (putSome ops vals (fun j => j != d) (List.range i) a0).eval st).run P w = r at *
              cases r with
              | ok n w' =>
                cases n <;> simp only [Oper.upon] at hq ⊢ <;>
                  first
                    | exact hq
                    | exact Calls.mono hq (fun e w'' he => by cases e <;> exact he)
                    | exact Rows.mono hq (fun _ _ he => he)
              | halt x w' => cases x <;> simp only [Oper.upon] at hq ⊢ <;> exact hq
            refine Oper.wp_mono (fun a' w' h' => ?_) conv
            refine ⟨fun h0 => ?_, fun j hj => ?_⟩
            · exfalso
              obtain ⟨o2, ho2, hd2⟩ := hdown d (by omega)
              have : d ∈ Region.ready .any ops (l.setIfInBounds i true) := mem_ready.2 ⟨by rw [getD_set_ne true (by omega)]; exact hdf, o2, ho2, fun e he hb => by
                have := hd2 e he hb
                rw [getD_two (by simp; omega) false true]
                exact hset _ (by omega) (by omega)⟩
              rw [h0] at this; cases this
            · obtain ⟨hun2, o2, ho2, _⟩ := mem_ready.1 hj
              have hjle : j < i + 1 := by have := (Array.getElem?_eq_some_iff.1 ho2).1; omega
              obtain rfl : j = d := by
                apply Classical.byContradiction
                intro hjd
                rw [hset j hjle hjd] at hun2; cases hun2
              unfold wpOp
              simp only [hod]
              rw [if_pos (by simp [Region.wanted, hg])]
              refine h'.imp (Oper.wp_mono (fun a'' w'' h'' => wpAny_done (ready_all hsz fun q hq => ?_) h'' fuel')) id
              by_cases hqd : q = j
              · subst hqd; simp [show q < l.size by omega]
              · rw [getD_set_ne true (Ne.symm hqd)]; exact hset q hq hqd
          · exact Or.inr ⟨hq.1, by
              obtain ⟨a1, w1, h2⟩ := hq.2
              exact ⟨a1, w1, lastQ_other h2 (by simp)⟩⟩
      · have him' : i < m := by omega
        have hilt : i < l.size := by omega
        obtain ⟨s, hsi⟩ : ∃ s, specs[i]? = some s := ⟨specs[i]'(by omega), by simp⟩
        have hguard : o.guard = none := by
          have hx := hgd i him'
          simpa [ho] using hx
        have hdo : dstOf ops i = o.dst := by simp [dstOf, ho]
        unfold wpOp
        simp only [ho]
        rw [if_pos (by simp [Region.wanted, hguard])]
        refine Or.inl ?_
        have hcnt := countP_set calls hnd (fun j => l.getD j true) i hun
        refine hstep i o s him' ho hsi _ w (calls.countP fun j => l.getD j true) hk hstm ?_ ?_ ?_ _ ?_
        · rw [← hcnt]; exact List.countP_le_length
        · intro t ht
          refine putSome_eval_other _ _ (fun j hj => ?_)
          intro hjt
          have hjm := List.mem_range.1 hj
          unfold dstOf at hjt
          cases hoj : ops[j]? with
          | none => rw [hoj] at hjt; cases hjt
          | some oj =>
            rw [hoj] at hjt
            have h9 : (ops.extract 0 specs.length)[j]? = some oj := by rw [ext_get _ _ _ (by omega)]; exact hoj
            have := Array.all_eq_true_iff_forall_mem.1 ht oj (Array.mem_of_getElem? h9)
            simp at this hjt
            exact this hjt
        · intro j t s' hj ht hs'
          obtain ⟨e, he, hb⟩ := Array.any_eq_true'.1 hj
          simp only [Bool.and_eq_true, beq_iff_eq] at hb
          obtain ⟨hb, rfl⟩ := hb
          have hlt : e.on < m := by have := (List.getElem?_eq_some_iff.1 hs').1; omega
          have hon' : l.getD e.on true = true := by rw [getD_two (by omega) true false]; exact hall e he hb
          rw [putSome_eval (i := e.on) _ _ List.nodup_range (List.mem_range.2 hlt) hon' ht (dlt _ _ ht) (fun j _ hj => fun h2 => dne e.on j (Ne.symm hj) t h2 ht)]
          exact hs e.on s' hon' hs'
        · intro v w' hv hkw hst'
          have e2 := putSome_set (ops := ops) (vals := vals) (listed := fun j => l.getD j true) (i := i) v (List.range m) a0 List.nodup_range (List.mem_range.2 him') hun (fun j _ hj t ht => dne i j (Ne.symm hj) t ht)
          have e3 : (fun j => if j = i then true else l.getD j true) = fun j => (l.setIfInBounds i true).getD j true := by
            funext j
            by_cases hji : j = i
            · subst hji; simp [hilt]
            · simp only [hji, if_false]; rw [getD_set_ne true (Ne.symm hji)]
          rw [← hdo, ← e2, e3]
          refine ih _ _ w' (by simpa using hl) (by rw [getD_set_ne true him]; exact hlm) (hcl.set hi) (hk.trans hkw) ?_ ?_ ?_
          · rw [← e3, hcnt]; exact hst'
          · intro j s' hj hs'
            by_cases hji : j = i
            · subst hji
              rw [hsi] at hs'; cases hs'
              simp only [if_true]; exact hv
            · simp only [hji, if_false]
              rw [getD_set_ne true (Ne.symm hji)] at hj
              exact (hs j s' hj hs').keeps hkw
          · have := cntSet i hilt hun
            omega

theorem tailQ_wp {k : Nat} {o : Oper} {a : Act} {w : World} {K : Act → World → Prop} (h : Oper.wp P o a w K Q) : Oper.wp P o a w K (tailQ P ops Q k) := by
  unfold Oper.wp at *
  generalize (execOp a.eval o).run P w = r at *
  cases r with
  | ok n w' =>
    cases n <;> simp only [Oper.upon] at h ⊢ <;>
      first
        | exact h
        | exact Calls.mono h (fun e w'' he => by cases e <;> exact he)
        | exact Rows.mono h (fun _ _ he => he)
  | halt x w' => cases x <;> simp only [Oper.upon] at h ⊢ <;> exact h

theorem toTail_of {L : List Oper} : ∀ (l : List Oper), (∀ o ∈ l, o.guard = none) → ∀ a w, wpList P L.toArray Q l a w → tailQ.wpTail P Q l a w := by
  intro l
  induction l with
  | nil => intro _ a w h; exact h
  | cons o l ih =>
    intro hg a w h
    unfold wpList at h
    rw [if_pos (by simp [Region.wanted, hg o List.mem_cons_self])] at h
    exact h.imp (Oper.wp_mono (fun a w h => ih (fun o ho => hg o (List.mem_cons_of_mem _ ho)) a w h)) (fun h => h)

theorem forVals_skip {S : Nat} {w : World} {K : Act → Prop} {vals : Nat → Value} {ops : Array Oper} {d : Nat} : ∀ (ss : List Spec) (i : Nat) (a : Act), ForVals S w K (((List.range' i ss.length).map (dstOf ops)).eraseIdx (d - i)) (ss.eraseIdx (d - i)) a → i ≤ d → d < i + ss.length → (∀ (j : Nat) (s : Spec), i + j ≠ d → ss[j]? = some s → s.holds S w (vals (i + j))) → K (putSome ops vals (fun j => j != d) (List.range' i ss.length) a)
  | [], i, a, h, _, h2, _ => by simp at h2; omega
  | s :: ss, i, a, h, h1, h2, hs => by
    by_cases hid : i = d
    · subst hid
      simp only [Nat.sub_self, List.length_cons, List.range'_succ, List.map_cons, List.eraseIdx_cons_zero] at h
      have := forVals_all (vals := vals) ss (i + 1) a h (fun j s' hj => by have := hs (j + 1) s' (by omega) (by simpa using hj); rwa [show i + (j + 1) = i + 1 + j by omega] at this)
      simp only [putSome, List.length_cons, List.range'_succ, List.foldl_cons, bne_self_eq_false, Bool.false_eq_true, if_false] at this ⊢
      have e : ∀ (l : List Nat) (a : Act), (∀ j ∈ l, j ≠ i) → List.foldl (fun a j => if (j != i) = true then a.put (dstOf ops j) (vals j) else a) a l = List.foldl (fun a j => a.put (dstOf ops j) (vals j)) a l := by
        intro l
        induction l with
        | nil => intro a _; rfl
        | cons x xs ih =>
          intro a hx
          have hxi := hx x (by simp)
          have hb : (x != i) = true := by simpa using hxi
          simp only [List.foldl_cons, hb, if_true]
          exact ih _ (fun j hj => hx j (by simp [hj]))
      rw [e _ _ (fun j hj => by have := List.mem_range'_1.1 hj; omega)]
      simpa using this
    · have hsub : d - i = (d - (i + 1)) + 1 := by omega
      rw [hsub] at h
      simp only [List.length_cons, List.range'_succ, List.map_cons, List.eraseIdx_cons_succ] at h
      have h1' : ForVals S w K (((List.range' (i + 1) ss.length).map (dstOf ops)).eraseIdx (d - (i + 1))) (ss.eraseIdx (d - (i + 1))) (a.put (dstOf ops i) (vals i)) := h (vals i) (hs 0 s (by omega) rfl)
      have := forVals_skip ss (i + 1) _ h1' (by omega) (by simp at h2; omega) (fun j s' hj hj2 => by have := hs (j + 1) s' (by omega) (by simpa using hj2); rwa [show i + (j + 1) = i + 1 + j by omega] at this)
      simp only [putSome, List.length_cons, List.range'_succ, List.foldl_cons, bne_iff_ne, ne_eq, hid, not_false_eq_true, if_true] at this ⊢
      exact this

/-- **A region that draws its order**: shown for all orders at once; operation m comes behind all of the first m but, it may be, number d. -/
theorem region_lateC {L : List Oper} {id : Nat} {a0 : Act} {w : World} (S k W m d : Nat) (specs : List Spec) (calls : List Nat) (ds : List (Option Tmp)) {st od : Oper} (hm : P.follows .mixedOrders = true) (hc : genChk L.toArray a0.tmps.size m calls = true) (hc2 : ((L.toArray.extract 0 (m + 1)).size == m + 1) = true) (ht : tailChk L.toArray (m + 1) = true) (hd : downChk L.toArray (m + 1) = true) (hlate : lateChk (L.toArray.extract 0 (m + 1)) m d = true) (hlen : specs.length = m)
    (hds : (List.range m).map (dstOf L.toArray) = ds) (hst : L[m]? = some st) (hod : L[d]? = some od) (hsg : (st.guard.isNone && od.guard.isNone && decide (d ∉ calls)) = true) (h0 : StreamOk w S k)
    (hstep : LateOps P L.toArray (tailQ P L.toArray Q (m + 1)) a0 S k W w.drew specs calls 0 (L.take m) specs)
    (hA : ∀ w', Keeps S w.drew w' → StreamOk w' S (k + W * calls.length) → ForVals S w' (fun a => wpList P L.toArray Q (st :: L.drop (m + 1)) a w') ds specs a0)
    (hB : lateAll (L.toArray.extract 0 (m + 1)) m = false → ∀ w', Keeps S w.drew w' → StreamOk w' S (k + W * calls.length) → ForVals S w' (fun a => wpList P L.toArray Q (st :: od :: L.drop (m + 1)) a w') (ds.eraseIdx d) (specs.eraseIdx d) a0) : (Code.region id L.toArray true).wp P Q a0 w := by
  subst hlen
  simp only [Bool.and_eq_true, Option.isNone_iff_eq_none, decide_eq_true_eq] at hsg
  obtain ⟨⟨hsg, hog⟩, hdc⟩ := hsg
  have hsz : (L.toArray.extract 0 (specs.length + 1)).size = specs.length + 1 := by simpa using hc2
  have hmL : specs.length + 1 ≤ L.length := by simp at hsz; omega
  have hdm : d < specs.length := by
    simp only [lateChk, Bool.and_eq_true, decide_eq_true_eq] at hlate
    exact hlate.2
  have tailNone : ∀ o ∈ L.drop (specs.length + 1), o.guard = none := by
    intro o ho
    obtain ⟨j, hj⟩ := List.getElem?_of_mem ho
    rw [List.getElem?_drop] at hj
    have hlt := (List.getElem?_eq_some_iff.1 hj).1
    have h := List.all_eq_true.1 ht (specs.length + 1 + j) (List.mem_range.2 (by simpa using hlt))
    simp only [Bool.or_eq_true, decide_eq_true_eq, Bool.and_eq_true] at h
    have h2 := (h.resolve_left (by omega)).2
    rw [show L.toArray[specs.length + 1 + j]? = some o by simpa using hj] at h2
    simpa using h2
  have hdown : ∀ i, i < specs.length + 1 → ∃ o, (L.toArray.extract 0 (specs.length + 1))[i]? = some o ∧ ∀ e ∈ o.after, Region.binds .any e = true → e.on < i := by
    intro i hi
    have h := List.all_eq_true.1 hd i (List.mem_range.2 hi)
    rw [ext_get _ _ _ hi]
    cases ho : L.toArray[i]? with
    | none => rw [ho] at h; cases h
    | some o =>
      rw [ho] at h
      simp only [Option.map_some, Option.getD_some] at h
      refine ⟨o, rfl, fun e he hb => ?_⟩
      have h1 := Array.all_eq_true_iff_forall_mem.1 h e he
      simpa [hb] using h1
  have dEq : ∀ j, j < specs.length → dstOf (L.toArray.extract 0 (specs.length + 1)) j = dstOf L.toArray j := fun j hj => by unfold dstOf; rw [ext_get _ _ _ (by omega)]
  have pEq : ∀ (vals : Nat → Value) (f : Nat → Bool) (l : List Nat), (∀ j ∈ l, j < specs.length) → ∀ a, putSome (L.toArray.extract 0 (specs.length + 1)) vals f l a = putSome L.toArray vals f l a := by
    intro vals f l
    induction l with
    | nil => intro _ a; rfl
    | cons j l ih =>
      intro hl a
      have ih' := ih (fun i hi => hl i (List.mem_cons_of_mem _ hi))
      simp only [putSome, List.foldl_cons] at ih' ⊢
      rw [dEq j (hl j List.mem_cons_self)]
      exact ih' _
  have hc' : genChk (L.toArray.extract 0 (specs.length + 1)) a0.tmps.size specs.length calls = true := by
    simp only [genChk, Bool.and_eq_true, List.all_eq_true, List.mem_range, decide_eq_true_eq, Bool.or_eq_true, beq_iff_eq] at hc ⊢
    obtain ⟨⟨⟨⟨⟨hdst, hgd⟩, hmn⟩, h1n⟩, hnd⟩, hcm⟩ := hc
    refine ⟨⟨⟨⟨⟨fun i hi j hj => ?_, fun i hi => ?_⟩, by omega⟩, by omega⟩, hnd⟩, hcm⟩
    · rw [hsz] at hi hj
      have := hdst i (by simp; omega) j (by simp; omega)
      have ei : dstOf (L.toArray.extract 0 (specs.length + 1)) i = dstOf L.toArray i := by unfold dstOf; rw [ext_get _ _ _ hi]
      have ej : dstOf (L.toArray.extract 0 (specs.length + 1)) j = dstOf L.toArray j := by unfold dstOf; rw [ext_get _ _ _ hj]
      rw [ei, ej]; exact this
    · rw [ext_get _ _ _ (by omega)]; exact hgd i hi
  refine wp_region_any hm ?_
  refine tail_any (specs.length + 1) ht (L.length - (specs.length + 1)) (specs.length + 1) (by simp; omega) (Nat.le_refl _) a0 _ ?_
  have g := gen_late (P := P) (ops := L.toArray.extract 0 (specs.length + 1)) (Q := tailQ P L.toArray Q (specs.length + 1)) (m := specs.length) (d := d) (W := W) (a0 := a0) (S := S) (k := k) (w0 := w.drew) (specs := specs) (calls := calls) (st := st) (od := od) hsz hc' rfl (by rw [ext_get _ _ _ (by omega)]; simpa using hst) hsg (by rw [ext_get _ _ _ (by omega)]; simpa using hod) hlate hdc hdown ?_ ?_ ?_ (specs.length + 1) (Array.replicate (specs.length + 1) false) (fun _ => undef) w.drew (by simp) (by simp) ?_ (Keeps.refl _ _) ?_ ?_ ?_
  · have e0 : ∀ (l : List Nat), (∀ i ∈ l, i < specs.length) → ∀ a, putSome (L.toArray.extract 0 (specs.length + 1)) (fun _ => undef) (fun i => (Array.replicate (specs.length + 1) false).getD i true) l a = a := by
      intro l
      induction l with
      | nil => intro _ a; rfl
      | cons j l ih =>
        intro hl a
        have hj := hl j List.mem_cons_self
        have ih' := ih (fun i hi => hl i (List.mem_cons_of_mem _ hi))
        simp only [putSome, List.foldl_cons] at ih' ⊢
        rw [show (Array.replicate (specs.length + 1) false).getD j true = false by simp [show j < specs.length + 1 by omega]]
        exact ih' a
    rw [e0 _ (fun i hi => List.mem_range.1 hi) a0] at g
    exact g
  · intro i o s hi ho hs a w' c hk hst2 hcc hfr hdp K hK
    have hoL : L[i]? = some o := by rw [ext_get _ _ _ (by omega)] at ho; simpa using ho
    have st2 := lateOps_at 0 _ _ hstep i o s (by rw [List.getElem?_take_of_lt hi]; exact hoL) hs
    rw [Nat.zero_add] at st2
    refine st2 a w' c hk hst2 hcc (fun t ht => hfr t ?_) (fun j t s' hj ht hs' => hdp j t s' hj (by rw [dEq j (List.getElem?_eq_some_iff.1 hs').1]; exact ht) hs') K hK
    rw [Array.extract_extract] 
    simpa [Nat.min_eq_left (show specs.length ≤ specs.length + 1 by omega)] using ht
  · intro vals w' hk hst2 hs
    rw [pEq vals _ _ (fun j hj => List.mem_range.1 hj)]
    have h := hA w' hk hst2
    subst hds
    have h2 := forVals_all (S := S) (w := w') (vals := vals) (ops := L.toArray) (K := fun a => wpList P L.toArray Q (st :: L.drop (specs.length + 1)) a w') specs 0 a0 (by rw [← List.range_eq_range']; exact h) (fun j s hj => by rw [Nat.zero_add]; exact hs j s hj)
    rw [← List.range_eq_range'] at h2
    have h3 := toTail_of (st :: L.drop (specs.length + 1)) (fun o ho => by
      rcases List.mem_cons.1 ho with rfl | ho
      · exact hsg
      · exact tailNone o ho) _ _ h2
    exact h3.imp (fun h => tailQ_wp h) (fun h => h)
  · intro hla vals w' hk hst2 hs
    rw [pEq vals _ _ (fun j hj => List.mem_range.1 hj)]
    have h := hB hla w' hk hst2
    subst hds
    have h2 := forVals_skip (S := S) (w := w') (vals := vals) (ops := L.toArray) (d := d) (K := fun a => wpList P L.toArray Q (st :: od :: L.drop (specs.length + 1)) a w') specs 0 a0 (by rw [← List.range_eq_range']; exact h) (Nat.zero_le _) (by omega) (fun j s hne hj => by rw [Nat.zero_add] at hne ⊢; exact hs j s hne hj)
    rw [← List.range_eq_range'] at h2
    have h3 := toTail_of (st :: od :: L.drop (specs.length + 1)) (fun o ho => by
      rcases List.mem_cons.1 ho with rfl | ho
      · exact hsg
      · rcases List.mem_cons.1 ho with rfl | ho
        · exact hog
        · exact tailNone o ho) _ _ h2
    refine h3.imp (fun h => ?_) (fun h => h)
    have h4 := Oper.wp_mono (K' := fun a' w' => lastQ P od (tailQ P L.toArray Q (specs.length + 1)) .normal a' w') (fun a w h => h.imp (fun h => tailQ_wp h) (fun h => h)) h
    unfold Oper.wp at *
    generalize (execOp (putSome L.toArray vals (fun i => i != d) (List.range specs.length) a0).eval st).run P w' = r at *
    cases r with
    | ok n w' =>
      cases n <;> simp only [Oper.upon] at h4 ⊢ <;>
        first
          | exact h4
          | exact Calls.mono h4 (fun e w'' he => by cases e <;> exact he)
          | exact Rows.mono h4 (fun _ _ he => he)
    | halt x w' => cases x <;> simp only [Oper.upon] at h4 ⊢ <;> exact h4
  · intro i o _ hl
    exfalso
    by_cases h' : i < specs.length + 1
    · simp [h'] at hl
    · simp [h'] at hl
  · have : calls.countP (fun i => (Array.replicate (specs.length + 1) false).getD i true) = 0 := List.countP_eq_zero.2 (fun i hi => by
      have h5 := hc
      simp only [genChk, Bool.and_eq_true, List.all_eq_true, decide_eq_true_eq] at h5
      have := h5.2 i hi
      simp [show i < specs.length + 1 by omega])
    rw [this, Nat.mul_zero]
    exact h0
  · intro i s h hs
    have hlt := (List.getElem?_eq_some_iff.1 hs).1
    simp [show i < specs.length + 1 by omega] at h
  · exact Nat.le_trans List.countP_le_length (by simp)
theorem region_late {L : List Oper} {id : Nat} {a0 : Act} {w : World} (S k W m d : Nat) (specs : List Spec) (calls : List Nat) (ds : List (Option Tmp)) {st od : Oper} (hm : P.follows .mixedOrders = true) (hc : genChk L.toArray a0.tmps.size m calls = true) (hc2 : ((L.toArray.extract 0 (m + 1)).size == m + 1) = true) (ht : tailChk L.toArray (m + 1) = true) (hd : downChk L.toArray (m + 1) = true) (hlate : lateChk (L.toArray.extract 0 (m + 1)) m d = true) (hlen : specs.length = m)
    (hds : (List.range m).map (dstOf L.toArray) = ds) (hst : L[m]? = some st) (hod : L[d]? = some od) (hsg : (st.guard.isNone && od.guard.isNone && decide (d ∉ calls)) = true) (h0 : StreamOk w S k)
    (hstep : LateOps P L.toArray (tailQ P L.toArray Q (m + 1)) a0 S k W w.drew specs calls 0 (L.take m) specs)
    (hA : ∀ w', Keeps S w.drew w' → StreamOk w' S (k + W * calls.length) → ForVals S w' (fun a => wpList P L.toArray Q (st :: L.drop (m + 1)) a w') ds specs a0)
    (hB : ∀ w', Keeps S w.drew w' → StreamOk w' S (k + W * calls.length) → ForVals S w' (fun a => wpList P L.toArray Q (st :: od :: L.drop (m + 1)) a w') (ds.eraseIdx d) (specs.eraseIdx d) a0) : (Code.region id L.toArray true).wp P Q a0 w :=
  region_lateC S k W m d specs calls ds hm hc hc2 ht hd hlate hlen hds hst hod hsg h0 hstep hA (fun _ => hB)
/-- The same where operation m waits, through others, for all ahead of it (d: any one that is no call): one end goal. -/
theorem region_all {L : List Oper} {id : Nat} {a0 : Act} {w : World} (S k W m d : Nat) (specs : List Spec) (calls : List Nat) (ds : List (Option Tmp)) {st od : Oper} (hm : P.follows .mixedOrders = true) (hc : genChk L.toArray a0.tmps.size m calls = true) (hc2 : ((L.toArray.extract 0 (m + 1)).size == m + 1) = true) (ht : tailChk L.toArray (m + 1) = true) (hd : downChk L.toArray (m + 1) = true) (hlate : (lateAll (L.toArray.extract 0 (m + 1)) m && lateChk (L.toArray.extract 0 (m + 1)) m d) = true) (hlen : specs.length = m)
    (hds : (List.range m).map (dstOf L.toArray) = ds) (hst : L[m]? = some st) (hod : L[d]? = some od) (hsg : (st.guard.isNone && od.guard.isNone && decide (d ∉ calls)) = true) (h0 : StreamOk w S k)
    (hstep : LateOps P L.toArray (tailQ P L.toArray Q (m + 1)) a0 S k W w.drew specs calls 0 (L.take m) specs)
    (hA : ∀ w', Keeps S w.drew w' → StreamOk w' S (k + W * calls.length) → ForVals S w' (fun a => wpList P L.toArray Q (st :: L.drop (m + 1)) a w') ds specs a0) : (Code.region id L.toArray true).wp P Q a0 w := by
  rw [Bool.and_eq_true] at hlate
  exact region_lateC S k W m d specs calls ds hm hc hc2 ht hd hlate.2 hlen hds hst hod hsg h0 hstep hA (fun h => by rw [hlate.1] at h; cases h)
theorem heap_alloc_new (w : World) (o : Obj) : (w.alloc o).heap[w.heap.size]? = some o := by
  show (w.heap.push o)[w.heap.size]? = some o
  simp
/-- A new block behind a pointer. -/
theorem gen_box {o : Oper} {a : Act} {w : World} {K : Act → World → Prop} {S k : Nat} {p : World → Value → Prop} (cs : Array Value) (ty : TypeId) (h : (execOp a.eval o).run P w = .ok (.value (.pointer (some ⟨w.heap.size, 0, none⟩))) (w.alloc (.cells cs ty))) (hp : ∀ w', Keeps S (w.alloc (.cells cs ty)) w' → p w' (.pointer (some ⟨w.heap.size, 0, none⟩))) (hst : StreamOk w S k)
    (hK : ∀ v w', (Spec.mem p).holds S w' v → Keeps S w w' → StreamOk w' S k → K (a.put o.dst v) w') : Oper.wp P o a w K Q := by
  unfold Oper.wp; rw [h]
  exact hK _ _ hp ((Keeps.refl S w).alloc _) (hst.below (ext_alloc (Below.refl _ _)))
/-- What was there before, asked on a list (quick to reckon). -/
theorem fr_list {ops : Array Oper} {n : Nat} {R : Tmp → Prop} (h : ∀ t, ((ops.extract 0 n).all fun o => o.dst != some t) = true → R t) (t : Tmp) (hl : ((ops.toList.take n).all fun o => o.dst != some t) = true) : R t := by
  refine h t ?_
  rw [← Array.all_toList, Array.toList_extract, List.extract_eq_take_drop]
  simpa using hl
end
end Go.Proofs.YtamlhapiehchoaaGreatDoor.NoS

set_option linter.unusedVariables false
set_option linter.unusedSimpArgs false
namespace Go.Proofs.YtamlhapiehchoaaGreatDoor
open Go.RowKit Go.Lib

theorem wp_valD {P : Program} {o : Oper} {a : Act} {w w' : World} {v : Value} {K : Act → World → Prop} {Q : Exit → Act → World → Prop} (h : (execOp a.eval o).run P w = .ok (.value v) w') (hK : K (a.put o.dst v) w') : Oper.wp P o a w K Q := by
  unfold Oper.wp; rw [h]; exact hK
theorem Tryz.hitSz : (Tryz.prog.info? 37).map (·.size) = some 5 := by kernel_rfl
def zeroHit : List Value := [.string ⟨#[]⟩, .int .i64 0, .int .i64 0, .string ⟨#[]⟩, .string ⟨#[]⟩]
def hitC (cs : List DCtx) (d : List Nat) (k i : Nat) : List Value := [.string ⟨(cs.getD k noDCtx).key.toArray⟩, .int .i64 i, .int .i64 ((cs.getD k noDCtx).rules.getD i noDRule).to_, .string ⟨((cs.getD k noDCtx).rules.getD i noDRule).name.toArray⟩, .string ⟨(dialV ((cs.getD k noDCtx).rules.getD i noDRule) d).toArray⟩]
def hitV (cs : List DCtx) (op : DRule → Bool) (d : List Nat) (l : List Nat) : List Value := match decAll cs op d l with
  | none => zeroHit
  | some (k, i) => if hitErr ((cs.getD k noDCtx).rules.getD i noDRule) d = 0 then hitC cs d k i else zeroHit
def HitPost (v : List Value) (E : Int) (w : World) (e : Ending) (w' : World) : Prop := e = .returned (.tuple #[.agg v.toArray, .int .i64 E]) ∧ Below w.heap.size w w'
theorem dec_all_none {cs : List DCtx} {op : DRule → Bool} {d : List Nat} : ∀ {l : List Nat}, (∀ m, m < l.length → decIn (cs.getD (l.getD m 0) noDCtx).rules op d = none) → decAll cs op d l = none
  | [], _ => rfl
  | k :: l, h => by
    have h0 : decIn (cs.getD k noDCtx).rules op d = none := h 0 (by simp)
    unfold decAll
    rw [h0]
    exact dec_all_none fun m hm => h (m + 1) (by simpa using hm)
theorem dec_all_at {cs : List DCtx} {op : DRule → Bool} {d : List Nat} {i : Nat} : ∀ {l : List Nat} {q : Nat}, q < l.length → (∀ m, m < q → decIn (cs.getD (l.getD m 0) noDCtx).rules op d = none) → decIn (cs.getD (l.getD q 0) noDCtx).rules op d = some i → decAll cs op d l = some (l.getD q 0, i)
  | k :: l, 0, _, _, h => by
    have h0 : decIn (cs.getD k noDCtx).rules op d = some i := h
    unfold decAll
    rw [h0]
    rfl
  | k :: l, q + 1, hq, hn, h => by
    have h0 : decIn (cs.getD k noDCtx).rules op d = none := hn 0 (by omega)
    unfold decAll
    rw [h0]
    exact dec_all_at (q := q) (by simpa using hq) (fun m hm => hn (m + 1) (by omega)) h
theorem cat_bytes (a b : List UInt8) : ((⟨a.toArray⟩ : ByteArray) ++ (⟨b.toArray⟩ : ByteArray)) = ⟨(a ++ b).toArray⟩ := by
  apply ByteArray.ext
  simp
theorem dial_bytes (r : DRule) (d : List Nat) : ((⟨r.pre.toArray⟩ : ByteArray) ++ (⟨(d.map signN).toArray⟩ : ByteArray).extract (min r.strip d.length) d.length) = ⟨(dialV r d).toArray⟩ := by
  have h := extract_drop (d.map signN) (min r.strip d.length)
  rw [List.length_map] at h
  rw [h, cat_bytes]
  rfl
set_option maxRecDepth 100000 in
set_option maxHeartbeats 8000000 in
theorem decide_any (w : World) (p : DPlan) (hp : DPlanFine w p) (i : Nat) (hi : i < 3) (d : List Nat) (hd : ∀ j, j < d.length → d.getD j 0 < 12) (hd1 : 1 ≤ d.length) (hdl : d.length ≤ 30) (at_ : Int) (hat : isMomB at_ = true) (a0 : 0 ≤ at_) (a1 : at_ ≤ 345686400000) :
    Calls Tryz.prog 10 #[.agg p.cells.toArray, .string ⟨(ctxKey i).toArray⟩, .string ⟨(d.map signN).toArray⟩, .int .i64 at_] w (HitPost (hitV p.ctxs (opR p at_) d (ordP p i)) (decErr p.ctxs (opR p at_) d (ordP p i)) w) := by
  have HAS := Lib.hid (fun W (hW : Below w.heap.size w W) => ask_any W p (hp.below hW) i hi d hd hd1 hdl at_ hat)
  have HDC := Lib.hid (fun k (hk : k < 3) W (hW : Below w.heap.size w W) => decides_any W p (hp.below hW) k hk d hd hdl at_ a0 a1)
  have HRR : Hid (∀ k : Nat, k < 3 → ∀ j, j < (p.ctxs.getD k noDCtx).rules.length → j < (p.ctxs.getD k noDCtx).rn ∧ DRuleOk ((p.ctxs.getD k noDCtx).rules.getD j noDRule) ∧ ∃ b off, (p.ctxs.getD k noDCtx).ra = some ⟨b, off, none⟩ ∧ ∀ W, Below w.heap.size w W → W.rangeAt b (off + j * 6) (((p.ctxs.getD k noDCtx).rules.getD j noDRule).cells)) := fun k hk j hj => by
    have hr := (hp.each k hk).rules
    have hl := hr.len
    obtain ⟨b, off, e, hbl, hcl⟩ := hr.at (by omega)
    obtain ⟨q0, q1, q2, q3, q4, q5⟩ := hcl j (by omega)
    exact ⟨by omega, hr.each j hj, b, off, e, fun W hW => rule_range ((hW.cell (p := ⟨b, off + j * 6, none⟩) hbl).trans q0) ((hW.cell (p := ⟨b, off + j * 6 + 1, none⟩) hbl).trans q1) ((hW.cell (p := ⟨b, off + j * 6 + 2, none⟩) hbl).trans q2) ((hW.cell (p := ⟨b, off + j * 6 + 3, none⟩) hbl).trans q3) ((hW.cell (p := ⟨b, off + j * 6 + 4, none⟩) hbl).trans q4) ((hW.cell (p := ⟨b, off + j * 6 + 5, none⟩) hbl).trans q5)⟩
  have HFE : Hid (∀ k : Nat, k < 3 → (p.ctxs.getD k noDCtx).rn ≤ 10) := fun k hk => (hp.each k hk).rules.few
  have HL3 : Hid (∀ x ∈ ordP p i, x < 3) := (ordP_ok hp hi).1
  have hl7 := (ordP_ok hp hi).2
  clear hp hd hd1 hat a0 a1
  unfold CtxsPost at HAS
  generalize hop : opR p at_ = op at HDC ⊢
  clear hop
  have HCR : Hid (∀ (w : World) (base : Nat) (v : Value), w.ownsRow base 58 3 v (ordP p i).length (ctxRow p (ordP p i)) → _) := fun w base v h => ctx_row h
  generalize ctxRow p (ordP p i) = cr at HAS HCR
  generalize ordP p i = l at HAS HL3 hl7 HCR ⊢
  obtain ⟨ca, cn, cc, ctxs, ha, hn, hcp, hrs⟩ := p
  simp only at HDC HRR HFE HCR ⊢
  have HAS2 : Hid (∀ W, Below w.heap.size w W → Calls Tryz.prog 32 #[.agg #[.slice ca cn cc, .slice ha hn hcp], .string ⟨(ctxKey i).toArray⟩, .string ⟨(d.map signN).toArray⟩, .int .i64 at_] W fun e w' => ∃ v, e = .returned (.tuple #[v, .int .i64 0]) ∧ w'.ownsRow W.heap.size 58 3 v l.length cr ∧ Below W.heap.size W w') := HAS.out
  have HDC2 : Hid (∀ k : Nat, k < 3 → ∀ W, Below w.heap.size w W → Calls Tryz.prog 33 #[.agg #[.slice ca cn cc, .slice ha hn hcp], .agg (ctxs.getD k noDCtx).cells.toArray, .string ⟨(d.map signN).toArray⟩, .int .i64 at_] W (IntP (optI (decIn (ctxs.getD k noDCtx).rules op d)) W)) := HDC.out
  clear HAS HDC
  have HDV := Lib.hid (fun r => dial_bytes r d)
  have hsz : (⟨(d.map signN).toArray⟩ : ByteArray).size = d.length := by show (d.map signN).toArray.size = _; simp
  generalize (⟨(d.map signN).toArray⟩ : ByteArray) = ds at HAS2 HDC2 HDV hsz ⊢
  generalize ctxKey i = ki at HAS2 ⊢
  have HNO : Hid ((∀ m, m < l.length → decIn (ctxs.getD (l.getD m 0) noDCtx).rules op d = none) → hitV ctxs op d l = zeroHit ∧ decErr ctxs op d l = 8) := fun h => by unfold hitV decErr; rw [dec_all_none h]; exact ⟨rfl, rfl⟩
  have HYE : Hid (∀ q ix, q < l.length → (∀ m, m < q → decIn (ctxs.getD (l.getD m 0) noDCtx).rules op d = none) → decIn (ctxs.getD (l.getD q 0) noDCtx).rules op d = some ix → hitV ctxs op d l = (if hitErr ((ctxs.getD (l.getD q 0) noDCtx).rules.getD ix noDRule) d = 0 then hitC ctxs d (l.getD q 0) ix else zeroHit) ∧ decErr ctxs op d l = hitErr ((ctxs.getD (l.getD q 0) noDCtx).rules.getD ix noDRule) d) := fun q ix hq hn h => by unfold hitV decErr; rw [dec_all_at hq hn h]; exact ⟨rfl, rfl⟩
  generalize hitV ctxs op d l = RV at HNO HYE ⊢
  generalize decErr ctxs op d l = RE at HNO HYE ⊢
  show Calls Tryz.prog 10 #[.agg #[.slice ca cn cc, .slice ha hn hcp], .string ⟨ki.toArray⟩, .string ds, .int .i64 at_] w (HitPost RV RE w)
  have P1 : Hid (Blk ((w.alloc (.cells #[.slice ca cn cc, .slice ha hn hcp] 29)).alloc (.cells #[.string ⟨#[]⟩, .int .i64 0, .int .i64 0, .string ⟨#[]⟩, .string ⟨#[]⟩] 37)) w.heap.size [.slice ca cn cc, .slice ha hn hcp] 29) := (Blk.new w _ _).alloc _
  have Z1 : Hid (Blk ((w.alloc (.cells #[.slice ca cn cc, .slice ha hn hcp] 29)).alloc (.cells #[.string ⟨#[]⟩, .int .i64 0, .int .i64 0, .string ⟨#[]⟩, .string ⟨#[]⟩] 37)) (w.heap.size + 1) [.string ⟨#[]⟩, .int .i64 0, .int .i64 0, .string ⟨#[]⟩, .string ⟨#[]⟩] 37) := by
    have := Blk.new (w.alloc (.cells #[.slice ca cn cc, .slice ha hn hcp] 29)) [.string ⟨#[]⟩, .int .i64 0, .int .i64 0, .string ⟨#[]⟩, .string ⟨#[]⟩] 37
    rw [show (w.alloc (.cells #[.slice ca cn cc, .slice ha hn hcp] 29)).heap.size = w.heap.size + 1 by simp] at this
    exact this
  have HB1 : Hid (Below w.heap.size w ((w.alloc (.cells #[.slice ca cn cc, .slice ha hn hcp] 29)).alloc (.cells #[.string ⟨#[]⟩, .int .i64 0, .int .i64 0, .string ⟨#[]⟩, .string ⟨#[]⟩] 37))) := ext_alloc (ext_alloc (Below.refl _ _))
  go_enter Tryz.func10, Tryz.ntmps10
  go_upto_region 1 with (fail)
  generalize ((w.alloc (.cells #[.slice ca cn cc, .slice ha hn hcp] 29)).alloc (.cells #[.string ⟨#[]⟩, .int .i64 0, .int .i64 0, .string ⟨#[]⟩, .string ⟨#[]⟩] 37)) = w1 at P1 Z1 HB1 ⊢
  obtain ⟨Z, hZ⟩ : ∃ Z, Z = w.heap.size + 1 := ⟨_, rfl⟩
  rw [← hZ] at Z1
  simp only [← hZ]
  have hZw : w.heap.size ≤ Z := by omega
  generalize w.heap.size = P at P1 ⊢
  clear hZ
  have p0 := P1.out.cell 0 rfl
  have p1 := P1.out.cell 1 rfl
  as_aux_lemma =>
    go_wp2_with fail
    refine (HAS2.out _ HB1.out).mono ?_
    rintro e w2 ⟨v, rfl, ho, hb⟩
    have HB2 := Lib.hid (ext_trans HB1.out hb)
    have P2 := Lib.hid (P1.out.below hb)
    have Z2 := Lib.hid (Z1.out.below hb)
    have hcr := HCR.out w2 _ v ho
    obtain ⟨va, vc, rfl, hrow⟩ : ∃ va vc, v = .slice va l.length vc ∧ (0 < l.length → ∃ g, va = some ⟨g, 0, none⟩ ∧ ∀ q, q < l.length → ∀ W, Below w2.heap.size w2 W → W.cell? ⟨g, q * 3, none⟩ = some (.string ⟨(ctxs.getD (l.getD q 0) noDCtx).key.toArray⟩) ∧ W.cell? ⟨g, q * 3 + 1, none⟩ = some (.slice (ctxs.getD (l.getD q 0) noDCtx).ra (ctxs.getD (l.getD q 0) noDCtx).rn (ctxs.getD (l.getD q 0) noDCtx).rc) ∧ W.cell? ⟨g, q * 3 + 2, none⟩ = some (.slice (ctxs.getD (l.getD q 0) noDCtx).ia (ctxs.getD (l.getD q 0) noDCtx).inn (ctxs.getD (l.getD q 0) noDCtx).ic)) := by
      rcases hcr with ⟨h0, rfl⟩ | ⟨g, c, rfl, h⟩
      · exact ⟨none, 0, by rw [h0]; rfl, fun h => by rw [h0] at h; cases h⟩
      · exact ⟨_, c, rfl, fun _ => ⟨g, rfl, h⟩⟩
    have HROW := Lib.hid hrow
    clear ho hb HB1 P1 Z1 p0 p1 HAS2 HCR hcr hrow
    as_aux_lemma =>
      go_wp2_with fail
      go_loopw [31] (fun it wr => ∃ q : Nat, q ≤ l.length ∧ it = .int .i64 q ∧ Hid (∀ m, m < q → decIn (ctxs.getD (l.getD m 0) noDCtx).rules op d = none) ∧ Hid (Below w2.heap.size w2 wr)) (fun it _ => l.length - (intOf it).toNat)
      case atStart => exact ⟨0, Nat.zero_le _, rfl, (fun m hm => by omega), Below.refl _ _⟩
      case round =>
        obtain ⟨q, hq, rfl, HN, HQ⟩ := hrel
        by_cases hlq : q < l.length
        case neg =>
          have hqn : ¬ (q : Int) < (l.length : Int) := by omega
          obtain ⟨hv, he⟩ := HNO.out (fun m hm => HN.out m (by omega))
          have Z3 := Lib.hid (Z2.out.below HQ.out)
          have HTH : Hid (wr.there Z 0 5) := Z3.out.th 5 (Nat.le_refl 5)
          have Z4 : Hid (Blk (wr.setCells Z 0 [.string ⟨#[]⟩, .int .i64 0, .int .i64 0, .string ⟨#[]⟩, .string ⟨#[]⟩]) Z [.string ⟨#[]⟩, .int .i64 0, .int .i64 0, .string ⟨#[]⟩, .string ⟨#[]⟩] 37) := ((((Z3.out.put 0 _).put 1 _).put 2 _).put 3 _).put 4 _
          have HF : Hid (HitPost RV RE w (.returned (.tuple #[.agg #[.string ⟨#[]⟩, .int .i64 0, .int .i64 0, .string ⟨#[]⟩, .string ⟨#[]⟩], .int .i64 8])) (wr.setCells Z 0 [.string ⟨#[]⟩, .int .i64 0, .int .i64 0, .string ⟨#[]⟩, .string ⟨#[]⟩])) := by
            rw [hv, he]
            exact ⟨rfl, (ext_trans HB2.out HQ.out).trans (below_setCellsD hZw _ _ _)⟩
          clear hv he HROW HNO HYE HN HQ HB2 P2 Z2 Z3 HRR HFE HL3 HDC2 HDV
          as_aux_lemma =>
            go_wp2_with (refine wpList_store_mid rfl 37 (.tmp 8) (.tmp 86) rfl Z 0 #[.string ⟨#[]⟩, .int .i64 0, .int .i64 0, .string ⟨#[]⟩, .string ⟨#[]⟩] rfl rfl HTH.out Tryz.hitSz (by simp [Value.oneCell']) ?_; generalize wr.setCells Z 0 _ = W9 at Z4 HF ⊢)
            refine bodyPost_ret (v := .tuple #[.agg #[.string ⟨#[]⟩, .int .i64 0, .int .i64 0, .string ⟨#[]⟩, .string ⟨#[]⟩], .int .i64 8]) ?_ rfl HF.out
            exact results_cell2 (t := 8) (u := 9) (by rfl) _ _ _ Tryz.isAgg37 Tryz.sizeOf37 (by rfl) [.string ⟨#[]⟩, .int .i64 0, .int .i64 0, .string ⟨#[]⟩, .string ⟨#[]⟩] rfl (fun j v hj => Z4.out.cell j hj)
        obtain ⟨g, rfl, hg⟩ := HROW.out (by omega)
        obtain ⟨c0, c1, c2⟩ := hg q hlq wr HQ.out
        have hk3 : l.getD q 0 < 3 := HL3.out _ (by rw [List.getD_eq_getElem?_getD, List.getElem?_eq_getElem hlq]; exact List.getElem_mem _)
        have HYQ := Lib.hid (fun ix h => HYE.out q ix hlq HN.out h)
        have HNQ : Hid (decIn (ctxs.getD (l.getD q 0) noDCtx).rules op d = none → ∀ m, m < q + 1 → decIn (ctxs.getD (l.getD m 0) noDCtx).rules op d = none) := fun h m hm => by
          by_cases hmq : m = q
          · rw [hmq]; exact h
          · exact HN.out m (by omega)
        have HDK := Lib.hid (HDC2.out (l.getD q 0) hk3)
        have HRK := Lib.hid (HRR.out (l.getD q 0) hk3)
        have hrf := HFE.out (l.getD q 0) hk3
        have HHC : Hid (∀ ix, hitC ctxs d (l.getD q 0) ix = [.string ⟨(ctxs.getD (l.getD q 0) noDCtx).key.toArray⟩, .int .i64 ix, .int .i64 ((ctxs.getD (l.getD q 0) noDCtx).rules.getD ix noDRule).to_, .string ⟨((ctxs.getD (l.getD q 0) noDCtx).rules.getD ix noDRule).name.toArray⟩, .string ⟨(dialV ((ctxs.getD (l.getD q 0) noDCtx).rules.getD ix noDRule) d).toArray⟩]) := fun ix => rfl
        generalize hitC ctxs d (l.getD q 0) = hC at HYQ HHC
        generalize ctxs.getD (l.getD q 0) noDCtx = c at c0 c1 c2 HYQ HNQ HDK HRK HHC hrf
        obtain ⟨key, ra, rn, rc, rules, ia, inn, ic, incs⟩ := c
        simp only at c0 c1 c2 HYQ HNQ HRK HHC hrf
        have HDK2 : Hid (∀ W, Below w.heap.size w W → Calls Tryz.prog 33 #[.agg #[.slice ca cn cc, .slice ha hn hcp], .agg #[.string ⟨key.toArray⟩, .slice ra rn rc, .slice ia inn ic], .string ds, .int .i64 at_] W (IntP (optI (decIn rules op d)) W)) := HDK.out
        have hq0 : ¬ ((q : Int) < 0) := by omega
        have hql : (q : Int) < (l.length : Int) := by omega
        have hA : Below wr.heap.size wr (wr.alloc (.cells #[.string ⟨key.toArray⟩, .slice ra rn rc, .slice ia inn ic] 58)) := ext_alloc (Below.refl _ _)
        have C3 : Hid (Blk (wr.alloc (.cells #[.string ⟨key.toArray⟩, .slice ra rn rc, .slice ia inn ic] 58)) wr.heap.size [.string ⟨key.toArray⟩, .slice ra rn rc, .slice ia inn ic] 58) := Blk.new _ _ _
        have HQ3 := Lib.hid (ext_trans HQ.out hA)
        have HB3 := Lib.hid (ext_trans HB2.out HQ3.out)
        have P3 := Lib.hid (P2.out.below HQ3.out)
        clear hg hA HQ HDK HRR HDC2 HL3 HFE HYE HNO HN
        as_aux_lemma =>
          go_upto_region 7 with (fail)
          clear c0 c1 c2
          generalize wr.alloc (.cells #[.string ⟨key.toArray⟩, .slice ra rn rc, .slice ia inn ic] 58) = w3 at C3 HQ3 HB3 P3 ⊢
          generalize wr.heap.size = C at C3 ⊢
          have p0 := P3.out.cell 0 rfl
          have p1 := P3.out.cell 1 rfl
          have c0 := C3.out.cell 0 rfl
          have c1 := C3.out.cell 1 rfl
          have c2 := C3.out.cell 2 rfl
          have HDD := Lib.hid (HDK2.out w3 HB3.out)
          go_wp2_with fail
          refine HDD.out.mono ?_
          rintro e w4 ⟨rfl, hb⟩
          have HQ4 := Lib.hid (ext_trans HQ3.out hb)
          have C4 := Lib.hid (C3.out.below hb)
          clear hb p0 p1 c0 c1 c2 HDD HDK2 HB3 P3 C3 HQ3
          cases hdec : decIn rules op d with
          | none =>
            have HNX := Lib.hid (HNQ.out hdec)
            have hopt : optI none = -1 := rfl
            clear HNQ HYQ HHC HRK
            as_aux_lemma =>
              go_wp2_with fail
              go_roundw
              case rel => exact ⟨q + 1, by omega, by go_num, HNX, HQ4⟩
              case measure => simp [intOf]; omega
          | some ix =>
            obtain ⟨hv, he⟩ := HYQ.out ix hdec
            obtain ⟨hix, hok, b0, off, rfl, hrg⟩ := HRK.out ix (decTo_some hdec).1
            have hhc := HHC.out ix
            have HB4 := Lib.hid (ext_trans HB2.out HQ4.out)
            have HRG0 := hrg w4 HB4.out
            have HDB := Lib.hid (HDV.out (rules.getD ix noDRule))
            have HER : Hid (hitErr (rules.getD ix noDRule) d = if 30 < (dialV (rules.getD ix noDRule) d).length then 2 else if dialV (rules.getD ix noDRule) d = [] ∧ ((rules.getD ix noDRule).to_ = 1 ∨ (rules.getD ix noDRule).to_ = 2) then 3 else 0) := rfl
            have hto := hok.to_
            have hrpl := hok.pre
            unfold DRule.cells at HRG0
            generalize hitErr (rules.getD ix noDRule) d = ER at hv he HER
            generalize dialV (rules.getD ix noDRule) d = dv at HER HDB hhc
            generalize rules.getD ix noDRule = rl at HRG0 HDB HER hto hhc hrpl
            obtain ⟨rel, rn_, rp, rt, rm, rh⟩ := rl
            simp only at HRG0 HDB HER hto hhc hrpl
            have hrp2 : rp.length ≤ 2 := by
              simp only [List.mem_cons, List.not_mem_nil, or_false] at hrpl
              rcases hrpl with rfl | rfl | rfl <;> decide
            clear hrpl
            generalize rel.str = rs at HRG0
            have HRG := Lib.hid HRG0
            have HVV : Hid (RV = if ER = 0 then [.string ⟨key.toArray⟩, .int .i64 (ix : Int), .int .i64 rt, .string ⟨rm.toArray⟩, .string ⟨dv.toArray⟩] else [.string ⟨#[]⟩, .int .i64 0, .int .i64 0, .string ⟨#[]⟩, .string ⟨#[]⟩]) := by show _ = _; rw [hv, hhc]; rfl
            have HEE := Lib.hid he
            obtain ⟨mu, hmu⟩ : ∃ mu : Nat, mu = min rn_ d.length := ⟨_, rfl⟩
            have hmin : min (rn_ : Int) (d.length : Int) = (mu : Int) := by omega
            have hmud : mu ≤ d.length := by omega
            rw [← hmu] at HDB
            have hm0 : ¬ ((mu : Int) < 0) := by omega
            have hmd : (mu : Int) ≤ (d.length : Int) := by omega
            generalize d.length = dm at HDB hmin hmud hmd hsz hdl
            have hi0 : ¬ ((ix : Int) < 0) := by omega
            have hirn : (ix : Int) < (rn : Int) := by omega
            have hopt : optI (some ix) = (ix : Int) := rfl
            have Z4 := Lib.hid (Z2.out.below HQ4.out)
            clear hv he hhc HRG0 hrg hok HRK HYQ HNQ HHC hdec hmu HDV HROW P2 Z2 HQ4 HB2
            have hz0 := Blk.new w4 [.string ⟨#[]⟩, .int .i64 0, .string ⟨#[]⟩, .int .i64 0, .string ⟨#[]⟩, .string ⟨#[]⟩] 63
            have HTH : Hid (World.there (w4.alloc (.cells #[.string ⟨#[]⟩, .int .i64 0, .string ⟨#[]⟩, .int .i64 0, .string ⟨#[]⟩, .string ⟨#[]⟩] 63)) w4.heap.size 0 6) := hz0.th 6 (Nat.le_refl 6)
            have hA : Below w4.heap.size w4 (w4.alloc (.cells #[.string ⟨#[]⟩, .int .i64 0, .string ⟨#[]⟩, .int .i64 0, .string ⟨#[]⟩, .string ⟨#[]⟩] 63)) := ext_alloc (Below.refl _ _)
            have hV : Below w4.heap.size w4 (World.setCells (w4.alloc (.cells #[.string ⟨#[]⟩, .int .i64 0, .string ⟨#[]⟩, .int .i64 0, .string ⟨#[]⟩, .string ⟨#[]⟩] 63)) w4.heap.size 0 [.string ⟨rs.toArray⟩, .int .i64 rn_, .string ⟨rp.toArray⟩, .int .i64 rt, .string ⟨rm.toArray⟩, .string ⟨rh.toArray⟩]) := belowW_put (Nat.le_refl _) hA _
            have R5 : Hid (Blk (World.setCells (w4.alloc (.cells #[.string ⟨#[]⟩, .int .i64 0, .string ⟨#[]⟩, .int .i64 0, .string ⟨#[]⟩, .string ⟨#[]⟩] 63)) w4.heap.size 0 [.string ⟨rs.toArray⟩, .int .i64 rn_, .string ⟨rp.toArray⟩, .int .i64 rt, .string ⟨rm.toArray⟩, .string ⟨rh.toArray⟩]) w4.heap.size [.string ⟨rs.toArray⟩, .int .i64 rn_, .string ⟨rp.toArray⟩, .int .i64 rt, .string ⟨rm.toArray⟩, .string ⟨rh.toArray⟩] 63) := hz0.put6 (.string ⟨rs.toArray⟩) (.int .i64 rn_) (.string ⟨rp.toArray⟩) (.int .i64 rt) (.string ⟨rm.toArray⟩) (.string ⟨rh.toArray⟩)
            have C5 := Lib.hid (C4.out.below hV)
            have Z5 := Lib.hid (Z4.out.below hV)
            have HB5 := Lib.hid (ext_trans HB4.out hV)
            have c1 := C4.out.cell 1 rfl
            clear hz0 hA hV HB4 Z4
            as_aux_lemma =>
              go_wp2_with (first | (refine wpList_load_mid rfl 63 (.tmp 45) rfl b0 (off + ix * 6) rfl [.string ⟨rs.toArray⟩, .int .i64 rn_, .string ⟨rp.toArray⟩, .int .i64 rt, .string ⟨rm.toArray⟩, .string ⟨rh.toArray⟩] _ HRG.out Tryz.underlying63 rfl Tryz.druleSz ?_) | (refine wpList_store_mid rfl 63 (.tmp 15) (.tmp 46) rfl w4.heap.size 0 #[.string ⟨rs.toArray⟩, .int .i64 rn_, .string ⟨rp.toArray⟩, .int .i64 rt, .string ⟨rm.toArray⟩, .string ⟨rh.toArray⟩] rfl rfl HTH.out Tryz.druleSz (by simp [Value.oneCell']) ?_; generalize (World.setCells (w4.alloc (.cells #[.string ⟨#[]⟩, .int .i64 0, .string ⟨#[]⟩, .int .i64 0, .string ⟨#[]⟩, .string ⟨#[]⟩] 63)) w4.heap.size 0 [.string ⟨rs.toArray⟩, .int .i64 rn_, .string ⟨rp.toArray⟩, .int .i64 rt, .string ⟨rm.toArray⟩, .string ⟨rh.toArray⟩]) = w5 at R5 C5 Z5 HB5 ⊢; clear HTH HRG; refine Hid.out ?_))
              refine Lib.hid ?_
              generalize w4.heap.size = Rb at R5 ⊢
              have c0 := C5.out.cell 0 rfl
              have r1 := R5.out.cell 1 rfl
              have r2 := R5.out.cell 2 rfl
              have r3 := R5.out.cell 3 rfl
              have r4 := R5.out.cell 4 rfl
              have hcl := C5.out.lt
              have hrl := R5.out.lt
              have hdb := HDB.out
              clear c1 C4
              as_aux_lemma =>
                go_upto_region 10 with (fail)
                go_cut [16] (fun v wx => ∃ Y, v = .pointer (some ⟨Y, 0, none⟩) ∧ Hid (Blk wx Y [.string ⟨key.toArray⟩, .int .i64 (ix : Int), .int .i64 rt, .string ⟨rm.toArray⟩, .string ⟨dv.toArray⟩] 37) ∧ Hid (Below w5.heap.size w5 wx))
                case first =>
                  clear Z5 HB5 HVV HEE HER
                  refine NoS.region_all 0 0 1 19 0 [.val (fun v => (.pointer (some ⟨C, 0, none⟩)) = v), .val (fun v => (.string ⟨key.toArray⟩) = v), .val (fun v => (.int .i64 (ix : Int)) = v), .val (fun v => (.pointer (some ⟨Rb, 3, none⟩)) = v), .val (fun v => (.int .i64 rt) = v), .val (fun v => (.pointer (some ⟨Rb, 4, none⟩)) = v), .val (fun v => (.string ⟨rm.toArray⟩) = v), .val (fun v => (.pointer (some ⟨Rb, 2, none⟩)) = v), .val (fun v => (.string ⟨rp.toArray⟩) = v), .val (fun v => (.string ds) = v), .val (fun v => (.pointer (some ⟨Rb, 1, none⟩)) = v), .val (fun v => (.int .i64 rn_) = v), .val (fun v => (.string ds) = v), .val (fun v => (.int .i64 (dm : Int)) = v), .val (fun v => (.int .i64 (mu : Int)) = v), .val (fun v => (.string (ds.extract mu dm)) = v), .val (fun v => (.string ⟨dv.toArray⟩) = v), .val (fun v => (.agg #[.string ⟨key.toArray⟩, .int .i64 (ix : Int), .int .i64 rt, .string ⟨rm.toArray⟩, .string ⟨dv.toArray⟩]) = v), .mem (fun W v => ∃ Y, v = .pointer (some ⟨Y, 0, none⟩) ∧ Blk W Y [.string ⟨#[]⟩, .int .i64 0, .int .i64 0, .string ⟨#[]⟩, .string ⟨#[]⟩] 37 ∧ w5.heap.size ≤ Y)] [] [some 47, some 48, some 49, some 50, some 51, some 52, some 53, some 54, some 55, some 56, some 57, some 58, some 59, some 60, some 61, some 62, some 63, some 64, some 16] rfl (by kernel_rfl) (by kernel_rfl) (by kernel_rfl) (by kernel_rfl) (by kernel_rfl) rfl (by kernel_rfl) rfl rfl (by kernel_rfl) trivial ⟨?_, ?_, ?_, ?_, ?_, ?_, ?_, ?_, ?_, ?_, ?_, ?_, ?_, ?_, ?_, ?_, ?_, ?_, ?_, trivial⟩ ?_
                  · intro a9 w' c9 hk hst hc hfr hdp K hK
                    as_aux_lemma =>
                      have E13 : a9.eval (.tmp 13) = .pointer (some ⟨C, 0, none⟩) := NoS.fr_list hfr 13 (by kernel_rfl)
                      have d13_ := slot_of E13
                      refine NoS.gen_pure (v := .pointer (some ⟨C, 0, none⟩)) ?_ (hK _ _ rfl (NoS.Keeps.refl _ _) hst)
                      clear hK hdp hfr
                      go_simp
                  · intro a9 w' c9 hk hst hc hfr hdp K hK
                    as_aux_lemma =>
                      have E47 : a9.eval (.tmp 47) = .pointer (some ⟨C, 0, none⟩) := Eq.symm (hdp 0 47 _ (by kernel_rfl) (by kernel_rfl) rfl)
                      have d47_ := slot_of E47
                      have e0 : w'.cell? ⟨C, 0, none⟩ = some (.string ⟨key.toArray⟩) := (hk.cell (p := ⟨C, 0, none⟩) hcl).trans c0
                      refine NoS.gen_pure (v := .string ⟨key.toArray⟩) ?_ (hK _ _ rfl (NoS.Keeps.refl _ _) hst)
                      clear hK hdp hfr
                      go_simp
                  · intro a9 w' c9 hk hst hc hfr hdp K hK
                    as_aux_lemma =>
                      have E14 : a9.eval (.tmp 14) = .int .i64 (ix : Int) := NoS.fr_list hfr 14 (by kernel_rfl)
                      have d14_ := slot_of E14
                      refine NoS.gen_pure (v := .int .i64 (ix : Int)) ?_ (hK _ _ rfl (NoS.Keeps.refl _ _) hst)
                      clear hK hdp hfr
                      go_simp
                  · intro a9 w' c9 hk hst hc hfr hdp K hK
                    as_aux_lemma =>
                      have E15 : a9.eval (.tmp 15) = .pointer (some ⟨Rb, 0, none⟩) := NoS.fr_list hfr 15 (by kernel_rfl)
                      have d15_ := slot_of E15
                      refine NoS.gen_pure (v := .pointer (some ⟨Rb, 3, none⟩)) ?_ (hK _ _ rfl (NoS.Keeps.refl _ _) hst)
                      clear hK hdp hfr
                      go_simp
                  · intro a9 w' c9 hk hst hc hfr hdp K hK
                    as_aux_lemma =>
                      have E50 : a9.eval (.tmp 50) = .pointer (some ⟨Rb, 3, none⟩) := Eq.symm (hdp 3 50 _ (by kernel_rfl) (by kernel_rfl) rfl)
                      have d50_ := slot_of E50
                      have e0 : w'.cell? ⟨Rb, 3, none⟩ = some (.int .i64 rt) := (hk.cell (p := ⟨Rb, 3, none⟩) hrl).trans r3
                      refine NoS.gen_pure (v := .int .i64 rt) ?_ (hK _ _ rfl (NoS.Keeps.refl _ _) hst)
                      clear hK hdp hfr
                      go_simp
                  · intro a9 w' c9 hk hst hc hfr hdp K hK
                    as_aux_lemma =>
                      have E15 : a9.eval (.tmp 15) = .pointer (some ⟨Rb, 0, none⟩) := NoS.fr_list hfr 15 (by kernel_rfl)
                      have d15_ := slot_of E15
                      refine NoS.gen_pure (v := .pointer (some ⟨Rb, 4, none⟩)) ?_ (hK _ _ rfl (NoS.Keeps.refl _ _) hst)
                      clear hK hdp hfr
                      go_simp
                  · intro a9 w' c9 hk hst hc hfr hdp K hK
                    as_aux_lemma =>
                      have E52 : a9.eval (.tmp 52) = .pointer (some ⟨Rb, 4, none⟩) := Eq.symm (hdp 5 52 _ (by kernel_rfl) (by kernel_rfl) rfl)
                      have d52_ := slot_of E52
                      have e0 : w'.cell? ⟨Rb, 4, none⟩ = some (.string ⟨rm.toArray⟩) := (hk.cell (p := ⟨Rb, 4, none⟩) hrl).trans r4
                      refine NoS.gen_pure (v := .string ⟨rm.toArray⟩) ?_ (hK _ _ rfl (NoS.Keeps.refl _ _) hst)
                      clear hK hdp hfr
                      go_simp
                  · intro a9 w' c9 hk hst hc hfr hdp K hK
                    as_aux_lemma =>
                      have E15 : a9.eval (.tmp 15) = .pointer (some ⟨Rb, 0, none⟩) := NoS.fr_list hfr 15 (by kernel_rfl)
                      have d15_ := slot_of E15
                      refine NoS.gen_pure (v := .pointer (some ⟨Rb, 2, none⟩)) ?_ (hK _ _ rfl (NoS.Keeps.refl _ _) hst)
                      clear hK hdp hfr
                      go_simp
                  · intro a9 w' c9 hk hst hc hfr hdp K hK
                    as_aux_lemma =>
                      have E54 : a9.eval (.tmp 54) = .pointer (some ⟨Rb, 2, none⟩) := Eq.symm (hdp 7 54 _ (by kernel_rfl) (by kernel_rfl) rfl)
                      have d54_ := slot_of E54
                      have e0 : w'.cell? ⟨Rb, 2, none⟩ = some (.string ⟨rp.toArray⟩) := (hk.cell (p := ⟨Rb, 2, none⟩) hrl).trans r2
                      refine NoS.gen_pure (v := .string ⟨rp.toArray⟩) ?_ (hK _ _ rfl (NoS.Keeps.refl _ _) hst)
                      clear hK hdp hfr
                      go_simp
                  · intro a9 w' c9 hk hst hc hfr hdp K hK
                    as_aux_lemma =>
                      have E2 : a9.eval (.tmp 2) = .string ds := NoS.fr_list hfr 2 (by kernel_rfl)
                      have d2_ := slot_of E2
                      refine NoS.gen_pure (v := .string ds) ?_ (hK _ _ rfl (NoS.Keeps.refl _ _) hst)
                      clear hK hdp hfr
                      go_simp
                  · intro a9 w' c9 hk hst hc hfr hdp K hK
                    as_aux_lemma =>
                      have E15 : a9.eval (.tmp 15) = .pointer (some ⟨Rb, 0, none⟩) := NoS.fr_list hfr 15 (by kernel_rfl)
                      have d15_ := slot_of E15
                      refine NoS.gen_pure (v := .pointer (some ⟨Rb, 1, none⟩)) ?_ (hK _ _ rfl (NoS.Keeps.refl _ _) hst)
                      clear hK hdp hfr
                      go_simp
                  · intro a9 w' c9 hk hst hc hfr hdp K hK
                    as_aux_lemma =>
                      have E57 : a9.eval (.tmp 57) = .pointer (some ⟨Rb, 1, none⟩) := Eq.symm (hdp 10 57 _ (by kernel_rfl) (by kernel_rfl) rfl)
                      have d57_ := slot_of E57
                      have e0 : w'.cell? ⟨Rb, 1, none⟩ = some (.int .i64 rn_) := (hk.cell (p := ⟨Rb, 1, none⟩) hrl).trans r1
                      refine NoS.gen_pure (v := .int .i64 rn_) ?_ (hK _ _ rfl (NoS.Keeps.refl _ _) hst)
                      clear hK hdp hfr
                      go_simp
                  · intro a9 w' c9 hk hst hc hfr hdp K hK
                    as_aux_lemma =>
                      have E2 : a9.eval (.tmp 2) = .string ds := NoS.fr_list hfr 2 (by kernel_rfl)
                      have d2_ := slot_of E2
                      refine NoS.gen_pure (v := .string ds) ?_ (hK _ _ rfl (NoS.Keeps.refl _ _) hst)
                      clear hK hdp hfr
                      go_simp
                  · intro a9 w' c9 hk hst hc hfr hdp K hK
                    as_aux_lemma =>
                      have E59 : a9.eval (.tmp 59) = .string ds := Eq.symm (hdp 12 59 _ (by kernel_rfl) (by kernel_rfl) rfl)
                      have d59_ := slot_of E59
                      refine NoS.gen_pure (v := .int .i64 (dm : Int)) ?_ (hK _ _ rfl (NoS.Keeps.refl _ _) hst)
                      clear hK hdp hfr
                      go_simp
                  · intro a9 w' c9 hk hst hc hfr hdp K hK
                    as_aux_lemma =>
                      have E58 : a9.eval (.tmp 58) = .int .i64 rn_ := Eq.symm (hdp 11 58 _ (by kernel_rfl) (by kernel_rfl) rfl)
                      have d58_ := slot_of E58
                      have E60 : a9.eval (.tmp 60) = .int .i64 (dm : Int) := Eq.symm (hdp 13 60 _ (by kernel_rfl) (by kernel_rfl) rfl)
                      have d60_ := slot_of E60
                      refine NoS.gen_pure (v := .int .i64 (mu : Int)) ?_ (hK _ _ rfl (NoS.Keeps.refl _ _) hst)
                      clear hK hdp hfr
                      go_simp
                  · intro a9 w' c9 hk hst hc hfr hdp K hK
                    skip
                    have E56 : a9.eval (.tmp 56) = .string ds := Eq.symm (hdp 9 56 _ (by kernel_rfl) (by kernel_rfl) rfl)
                    have d56_ := slot_of E56
                    have E61 : a9.eval (.tmp 61) = .int .i64 (mu : Int) := Eq.symm (hdp 14 61 _ (by kernel_rfl) (by kernel_rfl) rfl)
                    have d61_ := slot_of E61
                    refine NoS.gen_pure (v := .string (ds.extract mu dm)) ?_ (hK _ _ rfl (NoS.Keeps.refl _ _) hst)
                    clear hK hdp hfr
                    go_simp
                  · intro a9 w' c9 hk hst hc hfr hdp K hK
                    skip
                    have E55 : a9.eval (.tmp 55) = .string ⟨rp.toArray⟩ := Eq.symm (hdp 8 55 _ (by kernel_rfl) (by kernel_rfl) rfl)
                    have d55_ := slot_of E55
                    have E62 : a9.eval (.tmp 62) = .string (ds.extract mu dm) := Eq.symm (hdp 15 62 _ (by kernel_rfl) (by kernel_rfl) rfl)
                    have d62_ := slot_of E62
                    refine NoS.gen_pure (v := .string ⟨dv.toArray⟩) ?_ (hK _ _ rfl (NoS.Keeps.refl _ _) hst)
                    clear hK hdp hfr
                    go_simp
                    omega
                  · intro a9 w' c9 hk hst hc hfr hdp K hK
                    as_aux_lemma =>
                      have E48 : a9.eval (.tmp 48) = .string ⟨key.toArray⟩ := Eq.symm (hdp 1 48 _ (by kernel_rfl) (by kernel_rfl) rfl)
                      have d48_ := slot_of E48
                      have E49 : a9.eval (.tmp 49) = .int .i64 (ix : Int) := Eq.symm (hdp 2 49 _ (by kernel_rfl) (by kernel_rfl) rfl)
                      have d49_ := slot_of E49
                      have E51 : a9.eval (.tmp 51) = .int .i64 rt := Eq.symm (hdp 4 51 _ (by kernel_rfl) (by kernel_rfl) rfl)
                      have d51_ := slot_of E51
                      have E53 : a9.eval (.tmp 53) = .string ⟨rm.toArray⟩ := Eq.symm (hdp 6 53 _ (by kernel_rfl) (by kernel_rfl) rfl)
                      have d53_ := slot_of E53
                      have E63 : a9.eval (.tmp 63) = .string ⟨dv.toArray⟩ := Eq.symm (hdp 16 63 _ (by kernel_rfl) (by kernel_rfl) rfl)
                      have d63_ := slot_of E63
                      refine NoS.gen_pure (v := .agg #[.string ⟨key.toArray⟩, .int .i64 (ix : Int), .int .i64 rt, .string ⟨rm.toArray⟩, .string ⟨dv.toArray⟩]) ?_ (hK _ _ rfl (NoS.Keeps.refl _ _) hst)
                      clear hK hdp hfr
                      go_simp
                  · intro a9 w' c9 hk hst hc hfr hdp K hK
                    as_aux_lemma =>
                      refine wp_valD (v := .pointer (some ⟨w'.heap.size, 0, none⟩)) (w' := w'.alloc (.cells #[.string ⟨#[]⟩, .int .i64 0, .int .i64 0, .string ⟨#[]⟩, .string ⟨#[]⟩] 37)) ?_ (hK _ _ ?_ ?_ trivial)
                      · clear hK hdp hfr; go_simp
                      · intro w9 h9
                        exact ⟨_, rfl, (Blk.new w' [.string ⟨#[]⟩, .int .i64 0, .int .i64 0, .string ⟨#[]⟩, .string ⟨#[]⟩] 37).below (NoS.Keeps.below h9), (by have h8 := NoS.Keeps.size hk; exact h8)⟩
                      · exact NoS.Keeps.of_below (ext_alloc (Below.refl _ _))
                  intro w9 hk9 _
                  as_aux_lemma =>
                    rintro _ rfl _ rfl _ rfl _ rfl _ rfl _ rfl _ rfl _ rfl _ rfl _ rfl _ rfl _ rfl _ rfl _ rfl _ rfl _ rfl _ rfl _ rfl _ h10
                    obtain ⟨Y, rfl, hY, hYl⟩ := h10 w9 (NoS.Keeps.refl _ _)
                    simp only [NoS.ForVals, Act.put, List.setIfInBounds_toArray, List.set_cons_zero, List.set_cons_succ, List.drop_succ_cons, List.drop_zero]
                    have hb9 : Below w5.heap.size w5 w9 := ext_trans (by exact ext_drew (Below.refl _ _)) (NoS.Keeps.below hk9)
                    have HTY : Hid (w9.there Y 0 5) := hY.th 5 (by simp)
                    have hV9 : Below w5.heap.size w5 (w9.setCells Y 0 [.string ⟨key.toArray⟩, .int .i64 (ix : Int), .int .i64 rt, .string ⟨rm.toArray⟩, .string ⟨dv.toArray⟩]) := hb9.trans (below_setCellsD hYl _ _ _)
                    have Y6 : Hid (Blk (w9.setCells Y 0 [.string ⟨key.toArray⟩, .int .i64 (ix : Int), .int .i64 rt, .string ⟨rm.toArray⟩, .string ⟨dv.toArray⟩]) Y [.string ⟨key.toArray⟩, .int .i64 (ix : Int), .int .i64 rt, .string ⟨rm.toArray⟩, .string ⟨dv.toArray⟩] 37) := ((((hY.put 0 _).put 1 _).put 2 _).put 3 _).put 4 _
                    have HV9 := Lib.hid hV9
                    clear hY hb9 hk9 h10 hV9 c0 r1 r2 r3 r4 hcl hrl HDB hdb hYl hm0 hmd hmin hmud hsz
                    go_wp2_with (refine wpList_store_mid rfl 37 (.tmp 16) (.tmp 64) rfl Y 0 #[.string ⟨key.toArray⟩, .int .i64 (ix : Int), .int .i64 rt, .string ⟨rm.toArray⟩, .string ⟨dv.toArray⟩] rfl rfl HTY.out Tryz.hitSz (by simp [Value.oneCell']) ?_; generalize World.setCells w9 Y 0 _ = w6 at Y6 HV9 ⊢)
                    go_meet
                    exact ⟨Y, rfl, Y6, HV9⟩
                case rest =>
                  obtain ⟨Y, rfl, Y6, HV9⟩ := hcut
                  obtain ⟨w6, rfl⟩ : ∃ x : World, x = wc := ⟨_, rfl⟩
                  have R6 := Lib.hid (R5.out.below HV9.out)
                  have Z6 := Lib.hid (Z5.out.below HV9.out)
                  have HB6 := Lib.hid (ext_trans HB5.out HV9.out)
                  clear HV9 R5 Z5 C5 HB5 c0 r1 r2 r3 r4 hcl hrl HDB hdb hm0 hmd hmin hmud hsz
                  have HTZ : Hid (w6.there Z 0 5) := Z6.out.th 5 (Nat.le_refl 5)
                  have ZZ : Hid (Blk (w6.setCells Z 0 [.string ⟨#[]⟩, .int .i64 0, .int .i64 0, .string ⟨#[]⟩, .string ⟨#[]⟩]) Z [.string ⟨#[]⟩, .int .i64 0, .int .i64 0, .string ⟨#[]⟩, .string ⟨#[]⟩] 37) := ((((Z6.out.put 0 _).put 1 _).put 2 _).put 3 _).put 4 _
                  have ZV : Hid (Blk (w6.setCells Z 0 [.string ⟨key.toArray⟩, .int .i64 (ix : Int), .int .i64 rt, .string ⟨rm.toArray⟩, .string ⟨dv.toArray⟩]) Z [.string ⟨key.toArray⟩, .int .i64 (ix : Int), .int .i64 rt, .string ⟨rm.toArray⟩, .string ⟨dv.toArray⟩] 37) := ((((Z6.out.put 0 _).put 1 _).put 2 _).put 3 _).put 4 _
                  have HBZ : Hid (∀ vs, Below w.heap.size w (w6.setCells Z 0 vs)) := fun vs => HB6.out.trans (below_setCellsD hZw _ _ _)
                  have HRY : Hid (w6.rangeAt Y 0 [.string ⟨key.toArray⟩, .int .i64 (ix : Int), .int .i64 rt, .string ⟨rm.toArray⟩, .string ⟨dv.toArray⟩]) := Y6.out.rng
                  have y4 := Y6.out.cell 4 rfl
                  by_cases h30 : 30 < dv.length
                  · have hE : ER = 2 := by rw [HER.out, if_pos h30]
                    have HF : Hid (HitPost RV RE w (.returned (.tuple #[.agg #[.string ⟨#[]⟩, .int .i64 0, .int .i64 0, .string ⟨#[]⟩, .string ⟨#[]⟩], .int .i64 2])) (w6.setCells Z 0 [.string ⟨#[]⟩, .int .i64 0, .int .i64 0, .string ⟨#[]⟩, .string ⟨#[]⟩])) := by
                      rw [HVV.out, HEE.out, hE, if_neg (by decide)]
                      exact ⟨rfl, HBZ.out _⟩
                    have h30i : (dv.length : Int) > 30 := by omega
                    clear hE HVV HEE HER ZV HBZ HRY R6 Y6 Z6
                    as_aux_lemma =>
                      go_wp2_with (refine wpList_store_mid rfl 37 (.tmp 8) (.tmp 69) rfl Z 0 #[.string ⟨#[]⟩, .int .i64 0, .int .i64 0, .string ⟨#[]⟩, .string ⟨#[]⟩] rfl rfl HTZ.out Tryz.hitSz (by simp [Value.oneCell']) ?_; generalize w6.setCells Z 0 _ = W9 at ZZ HF ⊢)
                      refine bodyPost_ret (v := .tuple #[.agg #[.string ⟨#[]⟩, .int .i64 0, .int .i64 0, .string ⟨#[]⟩, .string ⟨#[]⟩], .int .i64 2]) ?_ rfl HF.out
                      exact results_cell2 (t := 8) (u := 9) (by rfl) _ _ _ Tryz.isAgg37 Tryz.sizeOf37 (by rfl) [.string ⟨#[]⟩, .int .i64 0, .int .i64 0, .string ⟨#[]⟩, .string ⟨#[]⟩] rfl (fun j v hj => ZZ.out.cell j hj)
                  have h30i : ¬ ((dv.length : Int) > 30) := by omega
                  have HER2 : Hid (ER = if dv = [] ∧ (rt = 1 ∨ rt = 2) then 3 else 0) := by show _ = _; rw [HER.out, if_neg h30]
                  clear HER h30
                  have r3 := R6.out.cell 3 rfl
                  have HOKF : Hid (ER = 0 → HitPost RV RE w (.returned (.tuple #[.agg #[.string ⟨key.toArray⟩, .int .i64 (ix : Int), .int .i64 rt, .string ⟨rm.toArray⟩, .string ⟨dv.toArray⟩], .int .i64 0])) (w6.setCells Z 0 [.string ⟨key.toArray⟩, .int .i64 (ix : Int), .int .i64 rt, .string ⟨rm.toArray⟩, .string ⟨dv.toArray⟩])) := fun hE => by
                    rw [HVV.out, HEE.out, hE, if_pos rfl]
                    exact ⟨rfl, HBZ.out _⟩
                  have HBDF : Hid (ER = 3 → HitPost RV RE w (.returned (.tuple #[.agg #[.string ⟨#[]⟩, .int .i64 0, .int .i64 0, .string ⟨#[]⟩, .string ⟨#[]⟩], .int .i64 3])) (w6.setCells Z 0 [.string ⟨#[]⟩, .int .i64 0, .int .i64 0, .string ⟨#[]⟩, .string ⟨#[]⟩])) := fun hE => by
                    rw [HVV.out, HEE.out, hE, if_neg (by decide)]
                    exact ⟨rfl, HBZ.out _⟩
                  clear HVV HEE HBZ R6 Y6 Z6 HB6
                  have HT1 : Hid ((rt = 1 ∨ rt = 2) → (rt = 1 ∧ (rt : Int) = 1) ∨ (rt = 2 ∧ ¬ (rt : Int) = 1 ∧ (rt : Int) = 2)) := fun h => by omega
                  cases dv with
                  | cons x dv =>
                    have hE : ER = 0 := by rw [HER2.out, if_neg (fun h => by cases h.1)]
                    have HF := Lib.hid (HOKF.out hE)
                    clear hE HER2 HOKF HBDF HT1 ZZ
                    as_aux_lemma =>
                      go_upto_region 15 with (fail)
                      go_wp2_with (first | (refine wpList_load_mid rfl 37 (.tmp 16) rfl Y 0 rfl [.string ⟨key.toArray⟩, .int .i64 (ix : Int), .int .i64 rt, .string ⟨rm.toArray⟩, .string ⟨(x :: dv).toArray⟩] _ HRY.out Tryz.underlying37 rfl Tryz.hitSz ?_) | (refine wpList_store_mid rfl 37 (.tmp 8) (.tmp 84) rfl Z 0 #[.string ⟨key.toArray⟩, .int .i64 (ix : Int), .int .i64 rt, .string ⟨rm.toArray⟩, .string ⟨(x :: dv).toArray⟩] rfl rfl HTZ.out Tryz.hitSz (by simp [Value.oneCell']) ?_; generalize w6.setCells Z 0 _ = W9 at ZV HF ⊢))
                      refine bodyPost_ret (v := .tuple #[.agg #[.string ⟨key.toArray⟩, .int .i64 (ix : Int), .int .i64 rt, .string ⟨rm.toArray⟩, .string ⟨(x :: dv).toArray⟩], .int .i64 0]) ?_ rfl HF.out
                      exact results_cell2 (t := 8) (u := 9) (by rfl) _ _ _ Tryz.isAgg37 Tryz.sizeOf37 (by rfl) [.string ⟨key.toArray⟩, .int .i64 (ix : Int), .int .i64 rt, .string ⟨rm.toArray⟩, .string ⟨(x :: dv).toArray⟩] rfl (fun j v hj => ZV.out.cell j hj)
                  | nil =>
                    by_cases hrt : rt = 1 ∨ rt = 2
                    case neg =>
                      have hE : ER = 0 := by rw [HER2.out, if_neg (fun h => hrt h.2)]
                      have HF := Lib.hid (HOKF.out hE)
                      have ht1 : ¬ ((rt : Int) = 1) := by omega
                      have ht2 : ¬ ((rt : Int) = 2) := by omega
                      have ht1b : ((rt : Int) == 1) = false := beq_eq_false_iff_ne.2 ht1
                      have ht2b : ((rt : Int) == 2) = false := beq_eq_false_iff_ne.2 ht2
                      clear hE HER2 HOKF HBDF HT1 ZZ hrt
                      as_aux_lemma =>
                        go_upto_region 15 with (fail)
                        go_wp2_with (first | (refine wpList_load_mid rfl 37 (.tmp 16) rfl Y 0 rfl [.string ⟨key.toArray⟩, .int .i64 (ix : Int), .int .i64 rt, .string ⟨rm.toArray⟩, .string ⟨([] : List UInt8).toArray⟩] _ HRY.out Tryz.underlying37 rfl Tryz.hitSz ?_) | (refine wpList_store_mid rfl 37 (.tmp 8) (.tmp 84) rfl Z 0 #[.string ⟨key.toArray⟩, .int .i64 (ix : Int), .int .i64 rt, .string ⟨rm.toArray⟩, .string ⟨([] : List UInt8).toArray⟩] rfl rfl HTZ.out Tryz.hitSz (by simp [Value.oneCell']) ?_; generalize w6.setCells Z 0 _ = W9 at ZV HF ⊢))
                        refine bodyPost_ret (v := .tuple #[.agg #[.string ⟨key.toArray⟩, .int .i64 (ix : Int), .int .i64 rt, .string ⟨rm.toArray⟩, .string ⟨([] : List UInt8).toArray⟩], .int .i64 0]) ?_ rfl HF.out
                        exact results_cell2 (t := 8) (u := 9) (by rfl) _ _ _ Tryz.isAgg37 Tryz.sizeOf37 (by rfl) [.string ⟨key.toArray⟩, .int .i64 (ix : Int), .int .i64 rt, .string ⟨rm.toArray⟩, .string ⟨([] : List UInt8).toArray⟩] rfl (fun j v hj => ZV.out.cell j hj)
                    have hE : ER = 3 := by rw [HER2.out, if_pos ⟨rfl, hrt⟩]
                    have HF := Lib.hid (HBDF.out hE)
                    clear hE HER2 HOKF HBDF ZV HRY
                    rcases hrt with rfl | rfl
                    · skip
                      as_aux_lemma =>
                        go_upto_region 14 with (fail)
                        go_wp2_with (refine wpList_store_mid rfl 37 (.tmp 8) (.tmp 83) rfl Z 0 #[.string ⟨#[]⟩, .int .i64 0, .int .i64 0, .string ⟨#[]⟩, .string ⟨#[]⟩] rfl rfl HTZ.out Tryz.hitSz (by simp [Value.oneCell']) ?_; generalize w6.setCells Z 0 _ = W9 at ZZ HF ⊢)
                        refine bodyPost_ret (v := .tuple #[.agg #[.string ⟨#[]⟩, .int .i64 0, .int .i64 0, .string ⟨#[]⟩, .string ⟨#[]⟩], .int .i64 3]) ?_ rfl HF.out
                        exact results_cell2 (t := 8) (u := 9) (by rfl) _ _ _ Tryz.isAgg37 Tryz.sizeOf37 (by rfl) [.string ⟨#[]⟩, .int .i64 0, .int .i64 0, .string ⟨#[]⟩, .string ⟨#[]⟩] rfl (fun j v hj => ZZ.out.cell j hj)
                    · skip
                      as_aux_lemma =>
                        go_upto_region 14 with (fail)
                        go_wp2_with (refine wpList_store_mid rfl 37 (.tmp 8) (.tmp 83) rfl Z 0 #[.string ⟨#[]⟩, .int .i64 0, .int .i64 0, .string ⟨#[]⟩, .string ⟨#[]⟩] rfl rfl HTZ.out Tryz.hitSz (by simp [Value.oneCell']) ?_; generalize w6.setCells Z 0 _ = W9 at ZZ HF ⊢)
                        refine bodyPost_ret (v := .tuple #[.agg #[.string ⟨#[]⟩, .int .i64 0, .int .i64 0, .string ⟨#[]⟩, .string ⟨#[]⟩], .int .i64 3]) ?_ rfl HF.out
                        exact results_cell2 (t := 8) (u := 9) (by rfl) _ _ _ Tryz.isAgg37 Tryz.sizeOf37 (by rfl) [.string ⟨#[]⟩, .int .i64 0, .int .i64 0, .string ⟨#[]⟩, .string ⟨#[]⟩] rfl (fun j v hj => ZZ.out.cell j hj)
end Go.Proofs.YtamlhapiehchoaaGreatDoor

set_option linter.unusedVariables false
set_option linter.unusedSimpArgs false
namespace Go.Proofs.YtamlhapiehchoaaGreatDoor
open Go.RowKit Go.Lib

theorem opR_free (p : DPlan) (at_ : Int) (r : DRule) (h : r.hours = []) : opR p at_ r = true := by
  unfold opR openR
  rw [h]
  rfl
theorem dec_facts {w : World} {p : DPlan} (hp : DPlanFine w p) {at_ : Int} {d L : List Nat} (hL : ∀ x ∈ L, x < 3) (hE : decErr p.ctxs (opR p at_) d L = 0) :
    ∃ k i, decAll p.ctxs (opR p at_) d L = some (k, i) ∧ k < 3 ∧ i < (p.ctxs.getD k noDCtx).rules.length ∧ matchB ((p.ctxs.getD k noDCtx).rules.getD i noDRule).els.pat d = true ∧ hitV p.ctxs (opR p at_) d L = hitC p.ctxs d k i ∧
      ∀ j, j < (p.ctxs.getD k noDCtx).rules.length → matchB ((p.ctxs.getD k noDCtx).rules.getD j noDRule).els.pat d = true → ((p.ctxs.getD k noDCtx).rules.getD j noDRule).hours = [] → ¬ befI ((p.ctxs.getD k noDCtx).rules.getD j noDRule).els ((p.ctxs.getD k noDCtx).rules.getD i noDRule).els < 0 := by
  cases hd : decAll p.ctxs (opR p at_) d L with
  | none =>
    unfold decErr at hE
    rw [hd] at hE
    cases hE
  | some x =>
    obtain ⟨k, i⟩ := x
    obtain ⟨a, ha, hk, hdi, _⟩ := decAll_at hd
    have hk3 : k < 3 := by
      rw [← hk]
      refine hL _ ?_
      rw [List.getD_eq_getElem?_getD, List.getElem?_eq_getElem ha]
      exact List.getElem_mem ha
    have hr := (hp.each k hk3).rules
    obtain ⟨h1, h2⟩ := decTo_some hdi
    have hm : matchB ((p.ctxs.getD k noDCtx).rules.getD i noDRule).els.pat d = true := by
      unfold hitB at h2
      rw [Bool.and_eq_true] at h2
      exact h2.1
    refine ⟨k, i, rfl, hk3, h1, hm, ?_, fun j hj hmj hh => ?_⟩
    · unfold decErr at hE
      rw [hd] at hE
      unfold hitV
      rw [hd]
      exact if_pos hE
    · exact (decTo_best (fun j hj => (hr.each j hj).els) _ i (Nat.le_refl _) hdi j hj (by unfold hitB; rw [hmj, opR_free _ _ _ hh]; rfl)).1
theorem ctx_len {w : World} {p : DPlan} (hp : DPlanFine w p) (k : Nat) (hk : k < 3) : (p.ctxs.getD k noDCtx).rn = (p.ctxs.getD k noDCtx).rules.length ∧ (p.ctxs.getD k noDCtx).rn ≤ 10 := ⟨(hp.each k hk).rules.len, (hp.each k hk).rules.few⟩
/-- The plan's rows, in all later worlds. -/
theorem plan_rows {S : Nat} {w1 : World} {p : DPlan} (hf : ∀ W, Keeps S w1 W → DPlanFine W p) : ∃ g go, p.ca = some ⟨g, go, none⟩ ∧ p.cn = 3 ∧ ∀ k, k < 3 →
    (∀ W, Keeps S w1 W → W.cell? ⟨g, go + k * 3, none⟩ = some (.string ⟨(ctxKey k).toArray⟩) ∧ W.cell? ⟨g, go + k * 3 + 1, none⟩ = some (.slice (p.ctxs.getD k noDCtx).ra (p.ctxs.getD k noDCtx).rn (p.ctxs.getD k noDCtx).rc)) ∧
    ∃ b off, (0 < (p.ctxs.getD k noDCtx).rn → (p.ctxs.getD k noDCtx).ra = some ⟨b, off, none⟩) ∧ ∀ j, j < (p.ctxs.getD k noDCtx).rn → DRuleOk ((p.ctxs.getD k noDCtx).rules.getD j noDRule) ∧ ∀ W, Keeps S w1 W → W.rangeAt b (off + j * 6) (((p.ctxs.getD k noDCtx).rules.getD j noDRule).cells) := by
  have hp := hf w1 (Keeps.refl _ _)
  obtain ⟨g, go, ha, _, _⟩ := hp.at
  refine ⟨g, go, ha, hp.len, fun k hk => ⟨fun W hW => ?_, ?_⟩⟩
  · obtain ⟨g2, go2, ha2, _, hc⟩ := (hf W hW).at
    rw [ha] at ha2
    injection ha2 with ha2
    injection ha2 with e1 e2
    subst e1 e2
    exact ⟨(hc k hk).1, (hc k hk).2.1⟩
  · have hr := (hp.each k hk).rules
    by_cases h0 : 0 < (p.ctxs.getD k noDCtx).rn
    · obtain ⟨b, off, e, _, _⟩ := hr.at h0
      refine ⟨b, off, fun _ => e, fun j hj => ⟨hr.each j (by have := hr.len; omega), fun W hW => ?_⟩⟩
      obtain ⟨b2, off2, e2, hbl, hcl⟩ := ((hf W hW).each k hk).rules.at h0
      rw [e] at e2
      injection e2 with e2
      injection e2 with e1 e2
      subst e1 e2
      obtain ⟨q0, q1, q2, q3, q4, q5⟩ := hcl j hj
      exact rule_range q0 q1 q2 q3 q4 q5
    · exact ⟨0, 0, fun h => absurd h h0, fun j hj => absurd hj (by omega)⟩
set_option maxRecDepth 100000 in
/-- Which context has the key of a hit. -/
theorem hidCtx_at {w : World} {p : DPlan} (hp : DPlanFine w p) (k : Nat) (hk : k < 3) (A : Nat) (hA : A < w.heap.size) (c0 : w.cell? ⟨A, 0, none⟩ = some (.string ⟨(ctxKey k).toArray⟩)) :
    Calls Tryz.prog 18 #[.slice p.ca p.cn p.cc, .func (.func 19) #[] #[.pointer (some ⟨A, 0, none⟩)]] w (IntP k w) := by
  have hI := ctx_idx hp.three hp.keys k hk
  have := idxX_any 19 #[.pointer (some ⟨A, 0, none⟩)] (fun _ _ => rfl) w p.ca p.cn p.cc p.ctxs hp.cells (by have := hp.len; omega) (by have := hp.len; omega) _ (hidCtx_pred _ A w hA c0)
  rw [hI] at this
  exact this
set_option maxRecDepth 100000 in
/-- That rule is not among the hidden ones. -/
theorem hidHit_at {w : World} {p : DPlan} {at_ : Int} {d : List Nat} {i0 : Nat} (hi0 : i0 < 3) (hp : DPlanFine w p) (hd : ∀ j, j < d.length → d.getD j 0 < 12) (hd1 : 1 ≤ d.length) (hdl : d.length ≤ 30) {k i : Nat} (hk : k < 3) (hda : decAll p.ctxs (opR p at_) d (ordP p i0) = some (k, i)) {base : Nat} {v : Value} {hs : List (Nat × Nat)} (hr : HRow p.ctxs w base v hs) (hh : ∀ x ∈ hs, HidAt p.ctxs (ordP p i0) x.1 x.2) (hl : hs.length ≤ 12)
    (A : Nat) (hA : A < w.heap.size) (c0 : w.cell? ⟨A, 0, none⟩ = some (.string ⟨(ctxKey k).toArray⟩)) (c1 : w.cell? ⟨A, 1, none⟩ = some (.int .i64 i)) :
    Calls Tryz.prog 20 #[v, .func (.func 21) #[] #[.pointer (some ⟨A, 0, none⟩)]] w (BoolP false w) := by
  have hL := (ordP_ok hp hi0).1
  have := hasHt_any 21 #[.pointer (some ⟨A, 0, none⟩)] (fun _ _ => rfl) w p.ctxs base v hs hr (by omega) _ (hidHit_pred p.ctxs (ctxKey k) i A w hA c0 c1)
  rw [hid_not (op := opR p at_) (d := d) hL hp.keys hk hh (fun k i h => hid_never (fun x hx j hj => ((hp.each x (hL x hx)).rules.each j hj).els) (ord_nodup _ _ _ _ (by simp)) (fun r hr => opR_free p at_ r hr) hd hd1 hdl h) hda] at this
  exact this
end Go.Proofs.YtamlhapiehchoaaGreatDoor
