/- What is proved here: lemmas and contracts for the statement, put together out of smaller texts (RegionGen, CarrOwn, OrErr, PortSmall, CarrSmall, CarrLaw, CarrDeck, CarrDeckR, Blk, CarrRate). No condition beyond those stated. -/
import Derived.Test.YtacekbbndamkmaaGreatDoorDpPkA
import Derived.Test.YtacekbbndamkmaaGreatDoorDpPkB
import Derived.Test.YtacekbbndamkmaaGreatDoorShelfPort
import Derived.Test.YtacekbbndamkmaaGreatDoorShelfCarr
import Derived.Deep.MidRow
import Derived.Deep.RegionWith
import Derived.StillTailTactics
namespace Go.Proofs.YtacekbbndamkmaaGreatDoor
open Go.RowKit

section
variable {P : Program} {ops : Array Oper} {Q : Exit → Act → World → Prop}

theorem wpAny_monoQ {Q' : Exit → Act → World → Prop} (hn : ∀ a w, Q .normal a w → Q' .normal a w) (ho : ∀ e a w, e ≠ .normal → Q e a w → Q' e a w) : ∀ (fuel : Nat) (l : Array Bool) (a : Act) (w : World), wpAny P .any ops Q fuel l a w → wpAny P .any ops Q' fuel l a w := by
  have up : ∀ (o : Oper) (a : Act) (K K' : Act → World → Prop), (∀ a w, K a w → K' a w) → ∀ r : Result Next, o.upon P a K Q r → o.upon P a K' Q' r := by
    intro o a K K' hK r h
    cases r with
    | ok n w' =>
      cases n <;> simp only [Oper.upon] at h ⊢ <;>
        first
          | exact hK _ _ h
          | exact Calls.mono h (fun e w'' he => by
              cases e with
              | returned v => exact hK _ _ he
              | panicked c => exact ho _ _ _ (by simp) he
              | outgrown => exact let ⟨a, w, q⟩ := he; ⟨a, w, ho _ _ _ (by simp) q⟩)
          | exact Rows.mono h (fun _ _ he => hK _ _ he)
    | halt x w' => cases x <;> simp only [Oper.upon] at h ⊢ <;> first | exact ho _ _ _ (by simp) h | exact h
  intro fuel
  induction fuel with
  | zero => intro l a w h; exact ⟨h.1, hn _ _ h.2⟩
  | succ fuel ih =>
    intro l a w h
    refine ⟨fun h0 => hn _ _ (h.1 h0), fun i hi => ?_⟩
    have h1 := h.2 i hi
    unfold wpOp at *
    split
    · simp only [*] at h1; exact ih _ _ _ h1
    · rename_i o hoo
      simp only [hoo] at h1
      split
      · rename_i hw
        simp only [hw, if_true] at h1
        rcases h1 with h1 | ⟨h1, a1, w1, h2⟩
        · exact Or.inl (up o a _ _ (fun a w h => ih _ a w h) _ h1)
        · exact Or.inr ⟨h1, a1, w1, ho _ _ _ (by simp) h2⟩
      · rename_i hw
        simp only [hw] at h1
        exact ih _ _ _ h1

/-- The post of the first operations: the rest is still to come, in the text's order. -/
def tailQ (P : Program) (ops : Array Oper) (Q : Exit → Act → World → Prop) (k : Nat) : Exit → Act → World → Prop
  | .normal, a, w => wpTail P Q (ops.toList.drop k) a w
  | e, a, w => Q e a w
where
  wpTail (P : Program) (Q : Exit → Act → World → Prop) : List Oper → Act → World → Prop
    | [], a, w => Q .normal a w
    | o :: rest, a, w => o.wp P a w (wpTail P Q rest) Q ∨ (o.asks P a w ∧ LetsOut Q)

theorem tailQ_other {k : Nat} {e : Exit} (hn : e ≠ .normal) : tailQ P ops Q k e = Q e := by cases e <;> first | rfl | exact absurd rfl hn

/-- Each of the operations from m on waits for all ahead of it, and has no guard. -/
def tailChk (ops : Array Oper) (m : Nat) : Bool :=
  (List.range ops.size).all fun k => decide (k < m) || (lastChk (ops.extract 0 (k + 1)) k && ((ops[k]?).map fun o => o.guard.isNone).getD false)

theorem ext_get (ops : Array Oper) (k i : Nat) (h : i < k) : (ops.extract 0 k)[i]? = ops[i]? := by
  rw [Array.getElem?_extract]
  by_cases hi : i < ops.size
  · rw [if_pos (by omega)]; simp
  · rw [if_neg (by omega), Array.getElem?_eq_none (by omega)]
theorem ext_get_no (ops : Array Oper) (k i : Nat) (h : ¬ i < k) : (ops.extract 0 k)[i]? = none := by
  rw [Array.getElem?_extract, if_neg (by omega)]

theorem tail_any (m : Nat) (hc : tailChk ops m = true) : ∀ (d k : Nat), k + d = ops.size → m ≤ k → ∀ (a : Act) (w : World), wpAny P .any (ops.extract 0 k) (tailQ P ops Q k) k (Array.replicate k false) a w → wpAny P .any ops Q ops.size (Array.replicate ops.size false) a w := by
  intro d
  induction d with
  | zero =>
    intro k hk hm a w h
    obtain rfl : k = ops.size := by omega
    rw [show ops.extract 0 ops.size = ops by simp] at h
    refine wpAny_monoQ (fun a w h => ?_) (fun e a w hn h => by rw [tailQ_other hn] at h; exact h) _ _ a w h
    have h' : tailQ.wpTail P Q (ops.toList.drop ops.size) a w := h
    rw [List.drop_of_length_le (by simp)] at h'
    exact h'
  | succ d ih =>
    intro k hk hm a w h
    refine ih (k + 1) (by omega) (by omega) a w ?_
    have hc' := List.all_eq_true.1 hc k (by simp; omega)
    simp only [Bool.or_eq_true, decide_eq_true_eq, Bool.and_eq_true] at hc'
    obtain ⟨hl, hg⟩ := hc'.resolve_left (by omega)
    have hlt : k < ops.size := by omega
    have ho : ops[k]? = some ops[k] := by simp [hlt]
    have hgn : ops[k].guard = none := by simpa [ho] using hg
    refine last_any (m := k) (st := ops[k]) (ops := ops.extract 0 (k + 1)) (ops' := ops.extract 0 k) (by simp; omega) (by rw [ext_get _ _ _ (Nat.lt_succ_self k)]; exact ho) hgn hl (by simp; omega) (fun i hi => by rw [ext_get _ _ _ hi, ext_get _ _ _ (Nat.lt_succ_of_lt hi)]) k (Array.replicate (k + 1) false) (Array.replicate k false) a w (by simp) (by simp) (fun i hi => by simp [hi, Nat.lt_succ_of_lt hi]) (by simp) ?_ ?_
    · intro i o _ hl
      exfalso
      by_cases h' : i < k + 1
      · simp [h'] at hl
      · simp [h'] at hl
    · refine wpAny_monoQ (fun a w h => ?_) (fun e a w hn h => ?_) _ _ a w h
      · have h' : tailQ.wpTail P Q (ops.toList.drop k) a w := h
        rw [List.drop_eq_getElem_cons (by simpa using hlt)] at h'
        have h2 : ops[k].wp P a w (tailQ.wpTail P Q (ops.toList.drop (k + 1))) Q ∨ (ops[k].asks P a w ∧ LetsOut Q) := by simpa [tailQ.wpTail] using h'
        show Oper.wp P ops[k] a w (fun a' w' => tailQ P ops Q (k + 1) .normal a' w') (tailQ P ops Q (k + 1)) ∨ (ops[k].asks P a w ∧ LetsOut (tailQ P ops Q (k + 1)))
        refine h2.imp (fun h2 => ?_) (fun h2 => h2)
        unfold Oper.wp at *
        generalize (execOp a.eval ops[k]).run P w = r at *
        cases r with
        | ok n w' =>
          cases n <;> simp only [Oper.upon] at h2 ⊢ <;>
            first
              | exact h2
              | exact Calls.mono h2 (fun e w'' he => by cases e <;> exact he)
              | exact Rows.mono h2 (fun _ _ he => he)
        | halt x w' => cases x <;> simp only [Oper.upon] at h2 ⊢ <;> exact h2
      · rw [tailQ_other hn] at h
        show lastQ P ops[k] (tailQ P ops Q (k + 1)) e a w
        cases e <;> first | exact absurd rfl hn | exact h

/-! ### The first operations, whatever their order -/

/-- What is known of an operation's value: a property of the value; or a slice over a block of its own, whose cells are listed. -/
inductive Spec where
  | val (p : Value → Prop)
  | arr (n : Nat) (p : List Value → Prop)
  | mem (p : World → Value → Prop)

def Spec.holds (S : Nat) (w : World) : Spec → Value → Prop
  | .val p, v => p v
  | .arr n p, v => ∃ b vs, v = .slice (some ⟨b, 0, none⟩) n n ∧ p vs ∧ b ≠ S ∧ b < w.heap.size ∧ ∀ (j : Nat) (u : Value), vs[j]? = some u → w.cell? ⟨b, j, none⟩ = some u
  | .mem p, v => ∀ w', Keeps S w w' → p w' v

theorem Spec.holds.keeps {S : Nat} {w w' : World} {s : Spec} {v : Value} (h : s.holds S w v) (k : Keeps S w w') : s.holds S w' v := by
  cases s with
  | val p => exact h
  | arr n p =>
    obtain ⟨b, vs, hv, hp, hb, hl, hc⟩ := h
    exact ⟨b, vs, hv, hp, hb, Nat.lt_of_lt_of_le hl k.size, fun j u hj => (k.cell (p := ⟨b, j, none⟩) hl hb).trans (hc j u hj)⟩
  | mem p => exact fun w'' k' => h w'' (k.trans k')

def dstOf (ops : Array Oper) (i : Nat) : Option Tmp := (ops[i]?).bind (·.dst)

/-- The frame with the values of what is listed. -/
def putSome (ops : Array Oper) (vals : Nat → Value) (listed : Nat → Bool) (l : List Nat) (a : Act) : Act := l.foldl (fun a i => if listed i then a.put (dstOf ops i) (vals i) else a) a

theorem putSome_put {ops : Array Oper} {d : Option Tmp} {v : Value} {vals : Nat → Value} {listed : Nat → Bool} : ∀ (l : List Nat) (a : Act), (∀ j ∈ l, ∀ t, dstOf ops j = some t → d ≠ some t) → putSome ops vals listed l (a.put d v) = (putSome ops vals listed l a).put d v
  | [], a, _ => rfl
  | j :: l, a, h => by
    simp only [putSome, List.foldl_cons]
    have hl := fun a => putSome_put (ops := ops) (d := d) (v := v) (vals := vals) (listed := listed) l a (fun j hj => h j (List.mem_cons_of_mem _ hj))
    simp only [putSome] at hl
    by_cases hj : listed j = true
    · simp only [hj, if_true]
      rw [← hl, Act.put_comm a _ _ (fun t ht => ?_)]
      intro h2
      exact h j (List.mem_cons_self) t h2 ht
    · simp only [hj, Bool.false_eq_true, if_false]
      exact hl a

theorem putSome_congr {ops : Array Oper} {vals vals' : Nat → Value} {listed listed' : Nat → Bool} : ∀ (l : List Nat) (a : Act), (∀ j ∈ l, listed j = listed' j ∧ (listed j = true → vals j = vals' j)) → putSome ops vals listed l a = putSome ops vals' listed' l a
  | [], a, _ => rfl
  | j :: l, a, h => by
    simp only [putSome, List.foldl_cons]
    obtain ⟨h1, h2⟩ := h j List.mem_cons_self
    have hl := fun a => putSome_congr (ops := ops) (vals := vals) (vals' := vals') (listed := listed) (listed' := listed') l a (fun j hj => h j (List.mem_cons_of_mem _ hj))
    simp only [putSome] at hl
    rw [hl, ← h1]
    by_cases hj : listed j = true
    · simp only [hj, if_true, h2 hj]
    · simp only [hj, Bool.false_eq_true, if_false]

theorem putSome_set {ops : Array Oper} {vals : Nat → Value} {listed : Nat → Bool} {i : Nat} (v : Value) : ∀ (l : List Nat) (a : Act), l.Nodup → i ∈ l → listed i = false → (∀ j ∈ l, j ≠ i → ∀ t, dstOf ops j = some t → dstOf ops i ≠ some t) →
    putSome ops (fun j => if j = i then v else vals j) (fun j => if j = i then true else listed j) l a = (putSome ops vals listed l a).put (dstOf ops i) v
  | [], a, _, h, _, _ => by cases h
  | j :: l, a, hn, h, hu, hd => by
    by_cases hji : j = i
    · subst hji
      have hnot : j ∉ l := (List.nodup_cons.1 hn).1
      have e1 : putSome ops (fun k => if k = j then v else vals k) (fun k => if k = j then true else listed k) l (a.put (dstOf ops j) v) = putSome ops vals listed l (a.put (dstOf ops j) v) :=
        putSome_congr l _ (fun k hk => by have : k ≠ j := fun e => hnot (e ▸ hk); simp [this])
      have e2 := putSome_put (ops := ops) (d := dstOf ops j) (v := v) (vals := vals) (listed := listed) l a (fun k hk t ht => hd k (List.mem_cons_of_mem _ hk) (fun e => hnot (e ▸ hk)) t ht)
      simp only [putSome, List.foldl_cons, if_true, hu, Bool.false_eq_true, if_false] at e1 e2 ⊢
      rw [e1, e2]
    · have ih := fun a => putSome_set (ops := ops) (vals := vals) (listed := listed) (i := i) v l a (List.nodup_cons.1 hn).2 ((List.mem_cons.1 h).resolve_left (Ne.symm hji)) hu (fun k hk => hd k (List.mem_cons_of_mem _ hk))
      simp only [putSome, List.foldl_cons, hji, if_false] at ih ⊢
      exact ih _

theorem putSome_eval_other {ops : Array Oper} {vals : Nat → Value} {listed : Nat → Bool} {t : Tmp} : ∀ (l : List Nat) (a : Act), (∀ j ∈ l, dstOf ops j ≠ some t) → (putSome ops vals listed l a).eval (.tmp t) = a.eval (.tmp t)
  | [], a, _ => rfl
  | j :: l, a, h => by
    simp only [putSome, List.foldl_cons]
    have hl := fun a => putSome_eval_other (ops := ops) (vals := vals) (listed := listed) (t := t) l a (fun j hj => h j (List.mem_cons_of_mem _ hj))
    simp only [putSome] at hl
    rw [hl]
    split
    · exact Act.eval_put (fun d hd e => h j List.mem_cons_self (by cases e; exact hd))
    · rfl

theorem putSome_size {ops : Array Oper} {vals : Nat → Value} {listed : Nat → Bool} : ∀ (l : List Nat) (a : Act), (putSome ops vals listed l a).tmps.size = a.tmps.size
  | [], a => rfl
  | j :: l, a => by
    simp only [putSome, List.foldl_cons]
    have hl := fun a => putSome_size (ops := ops) (vals := vals) (listed := listed) l a
    simp only [putSome] at hl
    rw [hl]
    split
    · cases dstOf ops j <;> simp [Act.put]
    · rfl

theorem eval_put_same {a : Act} {d : Tmp} {v : Value} (h : d < a.tmps.size) : (a.put (some d) v).eval (.tmp d) = v := by simp [Act.eval, Act.put, h]

theorem putSome_eval {ops : Array Oper} {vals : Nat → Value} {listed : Nat → Bool} {i : Nat} {t : Tmp} : ∀ (l : List Nat) (a : Act), l.Nodup → i ∈ l → listed i = true → dstOf ops i = some t → t < a.tmps.size → (∀ j ∈ l, j ≠ i → dstOf ops j ≠ some t) → (putSome ops vals listed l a).eval (.tmp t) = vals i
  | [], a, _, h, _, _, _, _ => by cases h
  | j :: l, a, hn, h, hi, ht, hs, hd => by
    by_cases hji : j = i
    · subst hji
      have hnot : j ∉ l := (List.nodup_cons.1 hn).1
      have := putSome_eval_other (ops := ops) (vals := vals) (listed := listed) (t := t) l (a.put (dstOf ops j) (vals j)) (fun k hk => hd k (List.mem_cons_of_mem _ hk) (fun e => hnot (e ▸ hk)))
      simp only [putSome, List.foldl_cons, hi, if_true] at this ⊢
      rw [this, ht]
      exact eval_put_same hs
    · have ih := fun a hs => putSome_eval (ops := ops) (vals := vals) (listed := listed) (i := i) (t := t) l a (List.nodup_cons.1 hn).2 ((List.mem_cons.1 h).resolve_left (Ne.symm hji)) hi ht hs (fun k hk => hd k (List.mem_cons_of_mem _ hk))
      simp only [putSome, List.foldl_cons] at ih ⊢
      refine ih _ ?_
      split
      · cases dstOf ops j <;> simpa [Act.put] using hs
      · exact hs

/-- The stream and what stays, c numbers on. -/
def GenB (S k : Nat) (w0 : World) (c : Nat) (w : World) : Prop := Keeps S w0 w ∧ StreamOk w S (k + c)

/-- What is to be shown of operation i: it may look at what it waits for, and at what was there. -/
def GenStep (P : Program) (ops : Array Oper) (Q : Exit → Act → World → Prop) (a0 : Act) (S k : Nat) (w0 : World) (specs : List Spec) (total : Nat) (calls : List Nat) (i : Nat) : Prop :=
  ∀ (o : Oper) (s : Spec) (a : Act) (w : World) (c : Nat), ops[i]? = some o → specs[i]? = some s → Keeps S w0 w → StreamOk w S (k + c) → c + (if calls.contains i then 1 else 0) ≤ total →
    (∀ t, (∀ j, dstOf ops j ≠ some t) → a.eval (.tmp t) = a0.eval (.tmp t)) →
    (∀ e ∈ o.after, Region.binds .any e = true → ∀ t s', dstOf ops e.on = some t → specs[e.on]? = some s' → s'.holds S w (a.eval (.tmp t))) →
    ∀ K : Act → World → Prop, (∀ v w', s.holds S w' v → Keeps S w w' → StreamOk w' S (k + (c + if calls.contains i then 1 else 0)) → K (a.put o.dst v) w') → Oper.wp P o a w K Q

/-- The operations' temporaries are different ones and lie in the frame; the first ones have no guard and each a spec. -/
def genChk (ops : Array Oper) (size m : Nat) (calls : List Nat) : Bool :=
  ((List.range ops.size).all fun i => (List.range ops.size).all fun j => i == j || (match dstOf ops i with | none => true | some d => decide (d < size) && dstOf ops j != some d)) &&
  ((List.range m).all fun i => ((ops[i]?).map fun o => o.guard.isNone).getD false) && decide (m ≤ ops.size) && decide (1 < ops.size) && decide calls.Nodup && calls.all (fun i => decide (i < m))

theorem countP_set (calls : List Nat) (hn : calls.Nodup) (f : Nat → Bool) (i : Nat) (hu : f i = false) : calls.countP (fun j => if j = i then true else f j) = calls.countP f + if calls.contains i then 1 else 0 := by
  induction calls with
  | nil => simp
  | cons x xs ih =>
    have ih := ih (List.nodup_cons.1 hn).2
    have hx := (List.nodup_cons.1 hn).1
    by_cases hxi : x = i
    · subst hxi
      have : xs.countP (fun j => if j = x then true else f j) = xs.countP f := by
        refine List.countP_congr fun j hj => ?_
        have : j ≠ x := fun e => hx (e ▸ hj)
        simp [this]
      rw [List.countP_cons, this, List.countP_cons]
      simp [hu]
    · have hc : (x :: xs).contains i = xs.contains i := by simp [Ne.symm hxi]
      rw [hc, List.countP_cons, List.countP_cons, ih]
      simp [hxi]
      omega

theorem gen_any {m : Nat} {a0 : Act} {S k : Nat} {w0 : World} {specs : List Spec} {calls : List Nat} (hc : genChk ops a0.tmps.size m calls = true) (hlen : specs.length = m)
    (hstep : ∀ i, i < m → GenStep P (ops.extract 0 m) Q a0 S k w0 specs calls.length calls i)
    (hend : ∀ (vals : Nat → Value) (w : World), Keeps S w0 w → StreamOk w S (k + calls.length) → (∀ (i : Nat) (s : Spec), specs[i]? = some s → s.holds S w (vals i)) → Q .normal (putSome (ops.extract 0 m) vals (fun _ => true) (List.range m) a0) w) :
    ∀ (fuel : Nat) (l : Array Bool) (vals : Nat → Value) (w : World), l.size = m → Keeps S w0 w → StreamOk w S (k + calls.countP (fun i => l.getD i true)) → (∀ (i : Nat) (s : Spec), l.getD i true = true → specs[i]? = some s → s.holds S w (vals i)) → (l.toList.countP (fun b => !b) ≤ fuel) →
      (∀ i, i < m → ∃ o, (ops.extract 0 m)[i]? = some o ∧ ∀ e ∈ o.after, Region.binds .any e = true → e.on < i) →
      wpAny P .any (ops.extract 0 m) Q fuel l (putSome (ops.extract 0 m) vals (fun i => l.getD i true) (List.range m) a0) w := by
  simp only [genChk, Bool.and_eq_true, List.all_eq_true, List.mem_range, decide_eq_true_eq, Bool.or_eq_true, beq_iff_eq] at hc
  obtain ⟨⟨⟨⟨⟨hdst, hgd⟩, hmn⟩, h1n⟩, hnd⟩, hcm⟩ := hc
  have dsub : ∀ i t, dstOf (ops.extract 0 m) i = some t → dstOf ops i = some t ∧ i < m := by
    intro i t h
    unfold dstOf at *
    by_cases hi : i < m
    · rw [ext_get _ _ _ hi] at h
      exact ⟨h, hi⟩
    · rw [ext_get_no _ _ _ hi] at h; cases h
  have dne : ∀ i j, i ≠ j → ∀ t, dstOf (ops.extract 0 m) j = some t → dstOf (ops.extract 0 m) i ≠ some t := by
    intro i j hij t hj hi
    obtain ⟨hi1, hi2⟩ := dsub i t hi
    obtain ⟨hj1, hj2⟩ := dsub j t hj
    have := (hdst i (by omega) j (by omega)).resolve_left hij
    simp [hi1, hj1] at this
  have dlt : ∀ i t, dstOf (ops.extract 0 m) i = some t → t < a0.tmps.size := by
    intro i t hi
    obtain ⟨hi1, hi2⟩ := dsub i t hi
    have hj : ∃ j, j < ops.size ∧ i ≠ j := if h : i = 0 then ⟨1, by omega, by omega⟩ else ⟨0, by omega, h⟩
    obtain ⟨j, hj, hij⟩ := hj
    have := (hdst i (by omega) j hj).resolve_left hij
    simp [hi1] at this
    exact this.1
  have getl : ∀ (l : Array Bool) i, i < l.size → l.getD i true = true → l.getD i false = true := fun l i hi h => by rw [getD_two hi false true]; exact h
  intro fuel
  induction fuel with
  | zero =>
    intro l vals w hl hk hst hs hf hdown
    have hall : ∀ i, i < m → l.getD i true = true := by
      intro i hi
      rcases Bool.eq_false_or_eq_true (l.getD i true) with h | h
      · exact h
      · exfalso
        have : 0 < l.toList.countP (fun b => !b) := List.countP_pos_iff.2 ⟨false, by
          have hlt : i < l.size := by omega
          have : l[i] = false := by simpa [hlt] using h
          rw [← this]; simp, rfl⟩
        omega
    refine ⟨?_, ?_⟩
    · refine List.eq_nil_iff_forall_not_mem.2 fun i hi => ?_
      obtain ⟨h0, o, ho, _⟩ := mem_ready.1 hi
      have hlt : i < m := by have := (Array.getElem?_eq_some_iff.1 ho).1; simp at this; omega
      rw [hall i hlt] at h0; cases h0
    · have e1 : putSome (ops.extract 0 m) vals (fun i => l.getD i true) (List.range m) a0 = putSome (ops.extract 0 m) vals (fun _ => true) (List.range m) a0 := putSome_congr _ _ (fun i hi => ⟨hall i (List.mem_range.1 hi), fun _ => rfl⟩)
      rw [e1]
      refine hend vals w hk ?_ (fun i s h => hs i s (by
        by_cases hi : i < m
        · exact hall i hi
        · simp [show ¬ i < l.size by omega]) h)
      have : calls.countP (fun i => l.getD i true) = calls.length := List.countP_eq_length.2 (fun i hi => hall i (by simpa using hcm i hi))
      rw [this] at hst; exact hst
  | succ fuel ih =>
    intro l vals w hl hk hst hs hf hdown
    have dn := listed_of_none (ops := ops.extract 0 m) (m := m)
    refine ⟨fun h0 => ?_, fun i hi => ?_⟩
    · have hall : ∀ i, i < m → l.getD i true = true := by
        intro i
        induction i using Nat.strongRecOn with
        | _ i ihi =>
          intro hi
          rcases Bool.eq_false_or_eq_true (l.getD i true) with h | h
          · exact h
          · exfalso
            obtain ⟨o, ho, hd⟩ := hdown i hi
            have : i ∈ Region.ready .any (ops.extract 0 m) l := mem_ready.2 ⟨h, o, ho, fun e he hb => getl l _ (by have := hd e he hb; omega) (ihi e.on (hd e he hb) (by have := hd e he hb; omega))⟩
            rw [h0] at this; cases this
      have e1 : putSome (ops.extract 0 m) vals (fun i => l.getD i true) (List.range m) a0 = putSome (ops.extract 0 m) vals (fun _ => true) (List.range m) a0 := putSome_congr _ _ (fun i hi => ⟨hall i (List.mem_range.1 hi), fun _ => rfl⟩)
      rw [e1]
      refine hend vals w hk ?_ (fun i s h => hs i s (by
        by_cases hi : i < m
        · exact hall i hi
        · simp [show ¬ i < l.size by omega]) h)
      have : calls.countP (fun i => l.getD i true) = calls.length := List.countP_eq_length.2 (fun i hi => hall i (by simpa using hcm i hi))
      rw [this] at hst; exact hst
    · obtain ⟨hun, o, ho, hall⟩ := mem_ready.1 hi
      have him : i < m := by have := (Array.getElem?_eq_some_iff.1 ho).1; simp at this; omega
      have hilt : i < l.size := by omega
      obtain ⟨s, hsi⟩ : ∃ s, specs[i]? = some s := ⟨specs[i]'(by omega), by simp⟩
      have hguard : o.guard = none := by
        have hx := hgd i him
        have : ops[i]? = some o := by rw [ext_get _ _ _ him] at ho; exact ho
        simpa [this] using hx
      have hdo : dstOf (ops.extract 0 m) i = o.dst := by simp [dstOf, ho]
      unfold wpOp
      simp only [ho]
      rw [if_pos (by simp [Region.wanted, hguard])]
      refine Or.inl ?_
      have hcnt := countP_set calls hnd (fun j => l.getD j true) i hun
      refine hstep i him o s _ w (calls.countP fun j => l.getD j true) ho hsi hk hst ?_ ?_ ?_ _ ?_
      · rw [← hcnt]; exact List.countP_le_length
      · intro t ht
        exact putSome_eval_other _ _ (fun j _ => ht j)
      · intro e he hb t s' ht hs'
        have hon := hall e he hb
        have hlt : e.on < m := (dsub e.on t ht).2
        have hon' : l.getD e.on true = true := by rw [getD_two (by omega) true false]; exact hon
        rw [putSome_eval (i := e.on) _ _ List.nodup_range (List.mem_range.2 hlt) hon' ht (dlt _ _ ht) (fun j _ hj => fun h2 => dne e.on j (Ne.symm hj) t h2 ht)]
        exact hs e.on s' hon' hs'
      · intro v w' hv hkw hst'
        have e2 := putSome_set (ops := ops.extract 0 m) (vals := vals) (listed := fun j => l.getD j true) (i := i) v (List.range m) a0 List.nodup_range (List.mem_range.2 him) hun (fun j _ hj t ht => dne i j (Ne.symm hj) t ht)
        have e3 : (fun j => if j = i then true else l.getD j true) = fun j => (l.setIfInBounds i true).getD j true := by
          funext j
          by_cases hji : j = i
          · subst hji; simp [hilt]
          · simp only [hji, if_false]; rw [getD_set_ne true (Ne.symm hji)]
        rw [← hdo, ← e2, e3]
        refine ih _ _ w' (by simpa using hl) (hk.trans hkw) ?_ ?_ ?_ hdown
        · rw [← e3, hcnt]; exact hst'
        · intro j s' hj hs'
          by_cases hji : j = i
          · subst hji
            rw [hsi] at hs'; cases hs'
            simp only [if_true]; exact hv
          · simp only [hji, if_false]
            rw [getD_set_ne true (Ne.symm hji)] at hj
            exact (hs j s' hj hs').keeps hkw
        · have : (l.setIfInBounds i true).toList.countP (fun b => !b) + 1 = l.toList.countP (fun b => !b) := by
            have hli : l[i] = false := by simpa [hilt] using hun
            have hpos : 0 < l.toList.countP (fun b => !b) := List.countP_pos_iff.2 ⟨false, by rw [← hli]; simp, rfl⟩
            have := List.countP_set (p := fun b : Bool => !b) (l := l.toList) (i := i) (a := true) (by simpa using hilt)
            have e4 : l.toList[i]'(by simpa using hilt) = false := by simpa using hli
            rw [Array.toList_setIfInBounds, this, e4]
            rw [if_pos (by decide : (!false) = true), if_neg (by decide : ¬ (!true) = true)]
            omega
          omega

/-! ### The whole -/

/-- What is to be shown of an operation: it may look at what it waits for, and at what was there. -/
def GenOp (P : Program) (ops : Array Oper) (Q : Exit → Act → World → Prop) (a0 : Act) (S k : Nat) (w0 : World) (specs : List Spec) (calls : List Nat) (i : Nat) (o : Oper) (s : Spec) : Prop :=
  ∀ (a : Act) (w : World) (c : Nat), Keeps S w0 w → StreamOk w S (k + c) → c + (if calls.contains i then 1 else 0) ≤ calls.length →
    (∀ t, ((ops.extract 0 specs.length).all fun o => o.dst != some t) = true → a.eval (.tmp t) = a0.eval (.tmp t)) →
    (∀ (j : Nat) (t : Tmp) (s' : Spec), (o.after.any fun e => Region.binds .any e && e.on == j) = true → dstOf ops j = some t → specs[j]? = some s' → s'.holds S w (a.eval (.tmp t))) →
    ∀ K : Act → World → Prop, (∀ v w', s.holds S w' v → Keeps S w w' → StreamOk w' S (k + (c + if calls.contains i then 1 else 0)) → K (a.put o.dst v) w') → Oper.wp P o a w K (tailQ P ops Q specs.length)

def GenOps (P : Program) (ops : Array Oper) (Q : Exit → Act → World → Prop) (a0 : Act) (S k : Nat) (w0 : World) (specs : List Spec) (calls : List Nat) : Nat → List Oper → List Spec → Prop
  | i, o :: os, s :: ss => GenOp P ops Q a0 S k w0 specs calls i o s ∧ GenOps P ops Q a0 S k w0 specs calls (i + 1) os ss
  | _, _, _ => True

/-- For all values that the specs allow, put into the frame. -/
def ForVals (S : Nat) (w : World) (K : Act → Prop) : List (Option Tmp) → List Spec → Act → Prop
  | d :: ds, s :: ss, a => ∀ v, s.holds S w v → ForVals S w K ds ss (a.put d v)
  | _, _, a => K a

def downChk (ops : Array Oper) (m : Nat) : Bool := (List.range m).all fun i => ((ops[i]?).map fun o => o.after.all fun e => !Region.binds .any e || decide (e.on < i)).getD false

theorem genOps_at {a0 : Act} {S k : Nat} {w0 : World} {specs : List Spec} {calls : List Nat} : ∀ (i : Nat) (os : List Oper) (ss : List Spec), GenOps P ops Q a0 S k w0 specs calls i os ss → ∀ (j : Nat) (o : Oper) (s : Spec), os[j]? = some o → ss[j]? = some s → GenOp P ops Q a0 S k w0 specs calls (i + j) o s
  | i, o :: os, s :: ss, h, 0, _, _, ho, hs => by simp at ho hs; subst ho; subst hs; exact h.1
  | i, o :: os, s :: ss, h, j + 1, o', s', ho, hs => by
    have := genOps_at (i + 1) os ss h.2 j o' s' (by simpa using ho) (by simpa using hs)
    rw [show i + (j + 1) = i + 1 + j by omega]; exact this
  | i, [], _, _, j, _, _, ho, _ => by simp at ho
  | i, _ :: _, [], _, j, _, _, _, hs => by simp at hs

theorem forVals_all {S : Nat} {w : World} {K : Act → Prop} {vals : Nat → Value} {ops : Array Oper} : ∀ (ss : List Spec) (i : Nat) (a : Act), ForVals S w K ((List.range' i ss.length).map (dstOf ops)) ss a → (∀ (j : Nat) (s : Spec), ss[j]? = some s → s.holds S w (vals (i + j))) → K (putSome ops vals (fun _ => true) (List.range' i ss.length) a)
  | [], i, a, h, _ => h
  | s :: ss, i, a, h, hs => by
    have h1 : ForVals S w K ((List.range' (i + 1) ss.length).map (dstOf ops)) ss (a.put (dstOf ops i) (vals i)) := h (vals i) (hs 0 s rfl)
    have := forVals_all ss (i + 1) _ h1 (fun j s' hj => by have := hs (j + 1) s' (by simpa using hj); rwa [show i + (j + 1) = i + 1 + j by omega] at this)
    exact this

/-- **A region that draws its order, in which a stream hands out numbers**: shown for all orders at once; what comes behind the first operations goes in the text's order. -/
theorem region_gen {L : List Oper} {id : Nat} {a0 : Act} {w : World} (S k m : Nat) (specs : List Spec) (calls : List Nat) (ds : List (Option Tmp)) (hm : P.follows .mixedOrders = true) (hc : genChk L.toArray a0.tmps.size m calls = true) (ht : tailChk L.toArray m = true) (hd : downChk L.toArray m = true) (hlen : specs.length = m)
    (hds : (List.range m).map (dstOf L.toArray) = ds) (h0 : StreamOk w S k)
    (hstep : GenOps P L.toArray Q a0 S k w.drew specs calls 0 (L.take m) specs)
    (hend : ∀ w', Keeps S w.drew w' → StreamOk w' S (k + calls.length) → ForVals S w' (fun a => wpList P L.toArray Q (L.drop m) a w') ds specs a0) : (Code.region id L.toArray true).wp P Q a0 w := by
  subst hlen
  have hc0 := hc
  simp only [genChk, Bool.and_eq_true, List.all_eq_true, List.mem_range, decide_eq_true_eq] at hc0
  obtain ⟨⟨⟨⟨⟨_, hgd⟩, hmn⟩, h1n⟩, hnd⟩, hcm⟩ := hc0
  have hmn' : specs.length ≤ L.length := by simpa using hmn
  have hdown : ∀ i, i < specs.length → ∃ o, (L.toArray.extract 0 specs.length)[i]? = some o ∧ ∀ e ∈ o.after, Region.binds .any e = true → e.on < i := by
    intro i hi
    have h := List.all_eq_true.1 hd i (List.mem_range.2 hi)
    rw [ext_get _ _ _ hi]
    cases ho : L.toArray[i]? with
    | none => rw [ho] at h; cases h
    | some o =>
      rw [ho] at h
      simp only [Option.map_some, Option.getD_some] at h
      refine ⟨o, rfl, fun e he hb => ?_⟩
      have h1 := Array.all_eq_true_iff_forall_mem.1 h e he
      simpa [hb] using h1
  have tailNone : ∀ (k' : Nat) (o : Oper), specs.length ≤ k' → L.toArray[k']? = some o → o.guard = none := by
    intro k' o hk' ho
    have hlt := (Array.getElem?_eq_some_iff.1 ho).1
    have h := List.all_eq_true.1 ht k' (List.mem_range.2 hlt)
    simp only [Bool.or_eq_true, decide_eq_true_eq, Bool.and_eq_true] at h
    have h2 := (h.resolve_left (by omega)).2
    rw [ho] at h2
    simpa using h2
  have toTail : ∀ (l : List Oper), (∀ o ∈ l, o.guard = none) → ∀ a w, wpList P L.toArray Q l a w → tailQ.wpTail P Q l a w := by
    intro l
    induction l with
    | nil => intro _ a w h; exact h
    | cons o l ih =>
      intro hg a w h
      unfold wpList at h
      rw [if_pos (by simp [Region.wanted, hg o List.mem_cons_self])] at h
      exact h.imp (Oper.wp_mono (fun a w h => ih (fun o ho => hg o (List.mem_cons_of_mem _ ho)) a w h)) (fun h => h)
  refine wp_region_any hm ?_
  refine tail_any specs.length ht (L.length - specs.length) specs.length (by simp; omega) (Nat.le_refl _) a0 _ ?_
  have dEq : ∀ j, j < specs.length → dstOf (L.toArray.extract 0 specs.length) j = dstOf L.toArray j := fun j hj => by unfold dstOf; rw [ext_get _ _ _ hj]
  have dLt : ∀ j t, dstOf (L.toArray.extract 0 specs.length) j = some t → j < specs.length := fun j t h => by
    rcases Nat.lt_or_ge j specs.length with h' | h'
    · exact h'
    · unfold dstOf at h; rw [ext_get_no _ _ _ (by omega)] at h; cases h
  have g := gen_any (P := P) (ops := L.toArray) (Q := tailQ P L.toArray Q specs.length) (m := specs.length) (a0 := a0) (S := S) (k := k) (w0 := w.drew) (specs := specs) (calls := calls) hc rfl ?_ ?_ specs.length (Array.replicate specs.length false) (fun _ => undef) w.drew (by simp) (Keeps.refl _ _) ?_ ?_ ?_ hdown
  · have e0 : putSome (L.toArray.extract 0 specs.length) (fun _ => undef) (fun i => (Array.replicate specs.length false).getD i true) (List.range specs.length) a0 = a0 := by
      have : ∀ (l : List Nat), (∀ i ∈ l, i < specs.length) → ∀ a, putSome (L.toArray.extract 0 specs.length) (fun _ => undef) (fun i => (Array.replicate specs.length false).getD i true) l a = a := by
        intro l
        induction l with
        | nil => intro _ a; rfl
        | cons j l ih =>
          intro hl a
          have hj := hl j List.mem_cons_self
          have ih' := ih (fun i hi => hl i (List.mem_cons_of_mem _ hi))
          simp only [putSome, List.foldl_cons] at ih' ⊢
          rw [show (Array.replicate specs.length false).getD j true = false by simp [hj]]
          exact ih' a
      exact this _ (fun i hi => List.mem_range.1 hi) a0
    rw [e0] at g
    exact g
  · intro i hi o s a w' c ho hs hk hst hcc hfr hdp K hK
    have hoL : L[i]? = some o := by rw [ext_get _ _ _ hi] at ho; simpa using ho
    have st := genOps_at 0 _ _ hstep i o s (by rw [List.getElem?_take_of_lt hi]; exact hoL) hs
    rw [Nat.zero_add] at st
    refine st a w' c hk hst hcc (fun t ht => hfr t (fun j hj => ?_)) (fun j t s' hj ht hs' => ?_) K hK
    · unfold dstOf at hj
      cases hoj : (L.toArray.extract 0 specs.length)[j]? with
      | none => rw [hoj] at hj; cases hj
      | some oj =>
        rw [hoj] at hj
        have := Array.all_eq_true_iff_forall_mem.1 ht oj (Array.mem_of_getElem? hoj)
        simp at this hj
        exact this hj
    · obtain ⟨e, he, hb⟩ := Array.any_eq_true'.1 hj
      simp only [Bool.and_eq_true, beq_iff_eq] at hb
      obtain ⟨hb, rfl⟩ := hb
      have hlt : e.on < specs.length := (List.getElem?_eq_some_iff.1 hs').1
      exact hdp e he hb t s' (by rw [dEq _ hlt]; exact ht) hs'
  · intro vals w' hk hst hs
    have h := hend w' hk hst
    subst hds
    have e1 : putSome (L.toArray.extract 0 specs.length) vals (fun _ => true) (List.range specs.length) a0 = putSome L.toArray vals (fun _ => true) (List.range specs.length) a0 := by
      have : ∀ (l : List Nat), (∀ i ∈ l, i < specs.length) → ∀ a, putSome (L.toArray.extract 0 specs.length) vals (fun _ => true) l a = putSome L.toArray vals (fun _ => true) l a := by
        intro l
        induction l with
        | nil => intro _ a; rfl
        | cons j l ih =>
          intro hl a
          have ih' := ih (fun i hi => hl i (List.mem_cons_of_mem _ hi))
          simp only [putSome, List.foldl_cons] at ih' ⊢
          rw [dEq j (hl j List.mem_cons_self)]
          exact ih' _
      exact this _ (fun i hi => List.mem_range.1 hi) a0
    rw [e1]
    have h2 := forVals_all (S := S) (w := w') (vals := vals) (ops := L.toArray) (K := fun a => wpList P L.toArray Q (L.drop specs.length) a w') specs 0 a0 (by rw [← List.range_eq_range']; exact h) (fun j s hj => by rw [Nat.zero_add]; exact hs j s hj)
    rw [← List.range_eq_range'] at h2
    refine toTail _ (fun o ho => ?_) _ _ h2
    obtain ⟨j, hj⟩ := List.getElem?_of_mem ho
    rw [List.getElem?_drop] at hj
    exact tailNone _ o (Nat.le_add_right _ _) (by simpa using hj)
  · have : calls.countP (fun i => (Array.replicate specs.length false).getD i true) = 0 := List.countP_eq_zero.2 (fun i hi => by
      have := hcm i hi
      simp [this])
    rw [this]
    exact h0
  · intro i s h hs
    have hlt := (List.getElem?_eq_some_iff.1 hs).1
    simp [hlt] at h
  · exact Nat.le_trans List.countP_le_length (by simp)

theorem Keeps.grown0 {S : Nat} {a w w' : World} {row : Option Nat} (h : Keeps S a w) (hg : w.grownBy w' row) (hr : ∀ b, row = some b → a.heap.size ≤ b) : Keeps S a w' :=
  ⟨hg.os.trans h.os, hg.tape.trans h.tape, hg.output.trans h.output, Nat.le_trans h.size hg.size, fun k hk hn => (hg.block k (Nat.lt_of_lt_of_le hk h.size) (fun e => by have := hr k e.symm; omega)).trans (h.block k hk hn)⟩
theorem own_slice {w : World} {base : Nat} {e : TypeId} {size : Nat} {v : Value} {n : Nat} {xs : List Value} (h : w.ownsRow base e size v n xs) : ∃ a c, v = .slice a n c := by
  rcases h.2 with ⟨rfl, rfl⟩ | ⟨g, cap, cur, rfl, _⟩
  · exact ⟨none, 0, rfl⟩
  · exact ⟨_, _, rfl⟩
theorem addr_add0 (b j : Nat) : (⟨b, 0, none⟩ : Addr).add j = ⟨b, j, none⟩ := by unfold Addr.add; split <;> simp_all

/-! ### One operation -/
/-- A new block with such cells. -/
theorem gen_alloc {o : Oper} {a : Act} {w : World} {K : Act → World → Prop} {S k n : Nat} {p : List Value → Prop} (cs : Array Value) (ty : TypeId) (h : (execOp a.eval o).run P w = .ok (.value (.slice (some ⟨w.heap.size, 0, none⟩) n n)) (w.alloc (.cells cs ty))) (hp : p cs.toList) (hst : StreamOk w S k)
    (hK : ∀ v w', (Spec.arr n p).holds S w' v → Keeps S w w' → StreamOk w' S k → K (a.put o.dst v) w') : Oper.wp P o a w K Q := by
  unfold Oper.wp; rw [h]
  refine hK _ _ ⟨w.heap.size, cs.toList, rfl, hp, ?_, by simp, fun j u hj => ?_⟩ ((Keeps.refl S w).alloc _) (hst.below (ext_alloc (Below.refl _ _)))
  · have := hst.lt; omega
  · simpa using hj
/-- A call of a Go function, whose arguments are known. -/
theorem gen_call {o : Oper} {a : Act} {w : World} {K : Act → World → Prop} {R : Ending → World → Prop} (f : Nat) (vs : Array Value) (h : (execOp a.eval o).run P w = .ok (.enter f vs) w) (hc : Calls P f vs w R) (hR : ∀ e w', R e w' → ∃ v, e = .returned v ∧ K (a.put o.dst v) w') : Oper.wp P o a w K Q := by
  unfold Oper.wp; rw [h]
  refine Calls.mono hc fun e w' he => ?_
  obtain ⟨v, rfl, hk⟩ := hR e w' he
  exact hk
theorem gen_pure {o : Oper} {a : Act} {w : World} {K : Act → World → Prop} {v : Value} (h : (execOp a.eval o).run P w = .ok (.value v) w) (hK : K (a.put o.dst v) w) : Oper.wp P o a w K Q := by
  unfold Oper.wp; rw [h]; exact hK
end
end Go.Proofs.YtacekbbndamkmaaGreatDoor

set_option linter.unusedVariables false
set_option linter.unusedSimpArgs false
namespace Go.Proofs.YtacekbbndamkmaaGreatDoor
open Go.RowKit

/-- The blocks with p stay. -/
def KeepsIf (p : Nat → Prop) (w W : World) : Prop := w.heap.size ≤ W.heap.size ∧ ∀ b, b < w.heap.size → p b → W.heap[b]? = w.heap[b]?
theorem KeepsIf.refl (p : Nat → Prop) (w : World) : KeepsIf p w w := ⟨Nat.le_refl _, fun _ _ _ => rfl⟩
theorem KeepsIf.trans {p : Nat → Prop} {a b c : World} (h : KeepsIf p a b) (k : KeepsIf p b c) : KeepsIf p a c :=
  ⟨Nat.le_trans h.1 k.1, fun i hi hp => (k.2 i (Nat.lt_of_lt_of_le hi h.1) hp).trans (h.2 i hi hp)⟩
theorem KeepsIf.weak {p q : Nat → Prop} {w W : World} (h : KeepsIf p w W) (hq : ∀ b, b < w.heap.size → q b → p b) : KeepsIf q w W := ⟨h.1, fun b hb k => h.2 b hb (hq b hb k)⟩
theorem KeepsIf.of_keeps {p : Nat → Prop} {S : Nat} {w W : World} (h : Keeps S w W) (hp : ∀ b, p b → b ≠ S) : KeepsIf p w W := ⟨h.size, fun b hb k => h.block b hb (hp b k)⟩
theorem KeepsIf.of_below {p : Nat → Prop} {w W : World} (h : Below w.heap.size w W) : KeepsIf p w W := ⟨h.size, fun b hb k => h.block b hb⟩
theorem KeepsIf.grown {p : Nat → Prop} {w W : World} {row : Option Nat} (h : w.grownBy W row) (hp : ∀ b, p b → row ≠ some b) : KeepsIf p w W := ⟨h.size, fun b hb k => h.block b hb (fun e => hp b k e.symm)⟩
theorem KeepsIf.set {p : Nat → Prop} {w : World} {q : Addr} {v : Value} (hp : ∀ b, p b → q.block ≠ b) : KeepsIf p w (w.setCell q v) := ⟨by simp, fun b hb k => Below.heap_setCell _ _ _ _ (fun e => hp b k e.symm)⟩
theorem KeepsIf.alloc {p : Nat → Prop} (w : World) (o : Obj) : KeepsIf p w (w.alloc o) := ⟨by simp, fun b hb k => Below.heap_alloc _ _ _ hb⟩
theorem own_if {p : Nat → Prop} {w W : World} {base : Nat} {e : TypeId} {size : Nat} {v : Value} {n : Nat} {xs : List Value} (h : w.ownsRow base e size v n xs) (hk : KeepsIf p w W) (hp : ∀ b, v.ownBlock = some b → p b) : W.ownsRow base e size v n xs := by
  refine ⟨h.1, h.2.imp id ?_⟩
  rintro ⟨g, cap, cur, rfl, h1, h2, h3⟩
  exact ⟨g, cap, cur, rfl, h1, (hk.2 g (Array.getElem?_eq_some_iff.1 h2).1 (hp g rfl)).trans h2, h3⟩
theorem own_ge {p : Nat → Prop} {w W : World} {base : Nat} {e : TypeId} {size : Nat} {v : Value} {n : Nat} {xs : List Value} (h : w.ownsRow base e size v n xs) (hk : KeepsIf (fun b => base ≤ b) w W) : W.ownsRow base e size v n xs := own_if h hk (fun b e => (h.lt b e).1)
theorem own_caps {w : World} {base : Nat} {e : TypeId} {size : Nat} {a : Option Addr} {m c : Nat} {n : Nat} {xs : List Value} (h : w.ownsRow base e size (.slice a m c) n xs) : m = n ∧ n ≤ c := by
  rcases h.2 with ⟨h1, h0⟩ | ⟨g, cap, cur, h1, _, _, h4, _⟩
  · injection h1 with e1 e2 e3; omega
  · injection h1 with e1 e2 e3; omega

/-- Rates with bounds. -/
def RatesOk (l : List Rate) : Prop := l.length ≤ 50 ∧ ∀ r ∈ l, r.p.length ≤ 100 ∧ -2000000000000 ≤ r.price ∧ r.price ≤ 2000000000000
def DeckBounds (d : Deck) : Prop := (-2000000000000 ≤ d.from_ ∧ d.from_ ≤ 2000000000000) ∧ (-2000000000000 ≤ d.setup ∧ d.setup ≤ 2000000000000) ∧ (-2000000000000 ≤ d.least ∧ d.least ≤ 2000000000000) ∧ (-2000000000000 ≤ d.step ∧ d.step ≤ 2000000000000)
/-- A deck whose rates are a row of the call's own. -/
structure DeckOwn (base : Nat) (w : World) (d : Deck) : Prop where
  own : w.ownsRow base 51 3 (.slice d.ra d.rn d.rc) d.rates.length ((d.rates.map Rate.cells).flatten)
  ok : RatesOk d.rates
  bounds : DeckBounds d
theorem mem_getD {α : Type} {l : List α} {i : Nat} (d : α) (h : i < l.length) : l.getD i d ∈ l := by
  rw [List.getD_eq_getElem?_getD, List.getElem?_eq_getElem h]
  exact List.getElem_mem h
theorem DeckOwn.fine {base : Nat} {w : World} {d : Deck} (h : DeckOwn base w d) : DeckFine w d := by
  obtain ⟨a, c, e, hc⟩ := Cells.of_own h.own (fun x hx => by obtain ⟨y, _, rfl⟩ := List.mem_map.1 hx; rfl) (by decide)
  obtain ⟨h1, h2⟩ := own_caps h.own
  injection e with e1 e2 e3
  subst e1
  exact ⟨⟨by rw [h1]; exact hc, by rw [h1]; exact Nat.le_trans h.ok.1 (by decide), fun i hi => ⟨Nat.le_trans (h.ok.2 _ (mem_getD _ hi)).1 (by decide), (h.ok.2 _ (mem_getD _ hi)).2⟩⟩, by omega, h.bounds.1, h.bounds.2.1, h.bounds.2.2.1, h.bounds.2.2.2⟩
theorem DeckOwn.ge {base : Nat} {w W : World} {d : Deck} (h : DeckOwn base w d) (hk : KeepsIf (fun b => base ≤ b) w W) : DeckOwn base W d := ⟨own_ge (p := fun _ => True) h.own hk, h.ok, h.bounds⟩
theorem DeckOwn.keeps {base S : Nat} {w W : World} {d : Deck} (h : DeckOwn base w d) (hk : Keeps S w W) (hS : S < base) : DeckOwn base W d := h.ge (KeepsIf.of_keeps hk (fun b hb => by show b ≠ S; have : base ≤ b := hb; omega))
/-- What a deck that a stream hands out comes to. -/
def DeckPost (S k : Nat) (w : World) (e : Ending) (w' : World) : Prop :=
  ∃ d : Deck, e = .returned (.agg d.cells.toArray) ∧ DeckOwn w.heap.size w' d ∧ StreamOk w' S k ∧ Keeps S w w'
/-- Decks that stay where the blocks with p stay. -/
def DecksIf (p : Nat → Prop) (w : World) (l : List Deck) : Prop := ∀ W, KeepsIf p w W → ∀ i, i < l.length → DeckFine W (l.getD i noDeck)
theorem DecksIf.nil (p : Nat → Prop) (w : World) : DecksIf p w [] := fun W hW i hi => by cases hi
theorem DecksIf.on {p q : Nat → Prop} {w w' : World} {l : List Deck} (h : DecksIf p w l) (hk : ∀ W, KeepsIf q w' W → KeepsIf p w W) : DecksIf q w' l := fun W hW => h W (hk W hW)
theorem getD_snoc {α : Type} (l : List α) (x d : α) (i : Nat) : (l ++ [x]).getD i d = if i < l.length then l.getD i d else if i = l.length then x else d := by
  by_cases h : i < l.length
  · rw [if_pos h]; simp [List.getElem?_append_left h]
  · rw [if_neg h]
    by_cases h2 : i = l.length
    · subst h2; simp
    · rw [if_neg h2, List.getD_eq_getElem?_getD, List.getElem?_eq_none (by simp; omega)]; rfl
theorem DecksIf.snoc {p : Nat → Prop} {w : World} {l : List Deck} {d : Deck} (h : DecksIf p w l) (hd : ∀ W, KeepsIf p w W → DeckFine W d) : DecksIf p w (l ++ [d]) := fun W hW i hi => by
  rw [getD_snoc]
  by_cases h1 : i < l.length
  · rw [if_pos h1]; exact h W hW i h1
  · rw [if_neg h1, if_pos (by simp at hi; omega)]; exact hd W hW
/-- Carriers that stay where the blocks with p stay. -/
def CarrsIf (p : Nat → Prop) (w : World) (l : List Carr) : Prop := ∀ W, KeepsIf p w W → ∀ i, i < l.length → CarrFine W (l.getD i noCarr)
theorem CarrsIf.nil (p : Nat → Prop) (w : World) : CarrsIf p w [] := fun W hW i hi => by cases hi
theorem CarrsIf.on {p q : Nat → Prop} {w w' : World} {l : List Carr} (h : CarrsIf p w l) (hk : ∀ W, KeepsIf q w' W → KeepsIf p w W) : CarrsIf q w' l := fun W hW => h W (hk W hW)
theorem CarrsIf.snoc {p : Nat → Prop} {w : World} {l : List Carr} {d : Carr} (h : CarrsIf p w l) (hd : ∀ W, KeepsIf p w W → CarrFine W d) : CarrsIf p w (l ++ [d]) := fun W hW i hi => by
  rw [getD_snoc]
  by_cases h1 : i < l.length
  · rw [if_pos h1]; exact h W hW i h1
  · rw [if_neg h1, if_pos (by simp at hi; omega)]; exact hd W hW
theorem CarrsIf.set {p : Nat → Prop} {w : World} {l : List Carr} {d : Carr} {r : Nat} (h : CarrsIf p w l) (hd : ∀ W, KeepsIf p w W → CarrFine W d) : CarrsIf p w (l.set r d) := fun W hW i hi => by
  have hi2 : i < l.length := by simpa using hi
  by_cases h1 : i = r
  · subst h1
    have : (l.set i d).getD i noCarr = d := by simp [hi2]
    rw [this]; exact hd W hW
  · have : (l.set r d).getD i noCarr = l.getD i noCarr := by simp [List.getElem?_set, Ne.symm h1]
    rw [this]; exact h W hW i hi2
end Go.Proofs.YtacekbbndamkmaaGreatDoor

set_option linter.unusedVariables false
set_option linter.unusedSimpArgs false
namespace Go.Proofs.YtacekbbndamkmaaGreatDoor
open Go.RowKit

def firstE (a b : Int) : Int := if a ≠ 0 then a else b
set_option maxRecDepth 100000 in
theorem or_any (a b : Int) (B : Nat) (w : World) (hB : B < w.heap.size) (h0 : w.cell? ⟨B, 0, none⟩ = some (.int .i64 a)) (h1 : w.cell? ⟨B, 1, none⟩ = some (.int .i64 b)) : Calls Tryz.prog 8 #[.slice (some ⟨B, 0, none⟩) 2 2] w fun r w' => r = .returned (.int .i64 (firstE a b)) ∧ w = w' := by
  by_cases ha : a = 0
  · subst ha
    by_cases hb : b = 0
    · subst hb
      go_enter Tryz.func8, Tryz.ntmps8
      go_wp2_with fail
      go_loopw [8] (fun i wr => ∃ k : Nat, k ≤ 2 ∧ i = .int .i64 k ∧ wr = w) (fun i _ => 2 - (intOf i).toNat)
      case atStart => exact ⟨0, by omega, rfl, rfl⟩
      case round =>
        obtain ⟨k, hk, rfl, rfl⟩ := hrel
        have hkc : k = 0 ∨ k = 1 ∨ k = 2 := by omega
        rcases hkc with rfl | rfl | rfl
        · go_wp2_with fail
          go_roundw
          case rel => exact ⟨1, by omega, by go_num, trivial⟩
          case measure => simp [intOf]
        · go_wp2_with fail
          go_roundw
          case rel => exact ⟨2, by omega, by go_num, trivial⟩
          case measure => simp [intOf]
        · go_wp2_with fail
          go_ret
          exact ⟨rfl, rfl⟩
    · have hbb : (b == 0) = false := by simpa using hb
      go_enter Tryz.func8, Tryz.ntmps8
      go_wp2_with fail
      go_loopw [8] (fun i wr => ∃ k : Nat, k ≤ 1 ∧ i = .int .i64 k ∧ wr = w) (fun i _ => 2 - (intOf i).toNat)
      case atStart => exact ⟨0, by omega, rfl, rfl⟩
      case round =>
        obtain ⟨k, hk, rfl, rfl⟩ := hrel
        have hkc : k = 0 ∨ k = 1 := by omega
        rcases hkc with rfl | rfl
        · go_wp2_with fail
          go_roundw
          case rel => exact ⟨1, by omega, by go_num, trivial⟩
          case measure => simp [intOf]
        · go_wp2_with fail
          go_ret
          exact ⟨rfl, rfl⟩
  · have hab : (a == 0) = false := by simpa using ha
    have HF : Hid (firstE a b = a) := by show _ = _; unfold firstE; rw [if_pos ha]
    go_enter Tryz.func8, Tryz.ntmps8
    go_wp2_with fail
    go_loopw [8] (fun i wr => i = .int .i64 0 ∧ wr = w) (fun i _ => 0)
    case atStart => exact ⟨rfl, rfl⟩
    case round =>
      obtain ⟨rfl, rfl⟩ := hrel
      go_wp2_with fail
      go_ret
      exact ⟨by rw [HF.out]; rfl, rfl⟩

end Go.Proofs.YtacekbbndamkmaaGreatDoor

set_option linter.unusedVariables false
set_option linter.unusedSimpArgs false
namespace Go.Proofs.YtacekbbndamkmaaGreatDoor
open Go.RowKit

set_option maxRecDepth 100000 in
theorem orI_any (a b : Int) (B : Nat) (w : World) (hB : B < w.heap.size) (h0 : w.cell? ⟨B, 0, none⟩ = some (.int .i64 a)) (h1 : w.cell? ⟨B, 1, none⟩ = some (.int .i64 b)) : Calls Tryz.prog 57 #[.slice (some ⟨B, 0, none⟩) 2 2] w fun r w' => r = .returned (.int .i64 (firstE a b)) ∧ w = w' := by
  by_cases ha : a = 0
  · subst ha
    by_cases hb : b = 0
    · subst hb
      go_enter Tryz.func57, Tryz.ntmps57
      go_wp2_with fail
      go_loopw [8] (fun i wr => ∃ k : Nat, k ≤ 2 ∧ i = .int .i64 k ∧ wr = w) (fun i _ => 2 - (intOf i).toNat)
      case atStart => exact ⟨0, by omega, rfl, rfl⟩
      case round =>
        obtain ⟨k, hk, rfl, rfl⟩ := hrel
        have hkc : k = 0 ∨ k = 1 ∨ k = 2 := by omega
        rcases hkc with rfl | rfl | rfl
        · go_wp2_with fail
          go_roundw
          case rel => exact ⟨1, by omega, by go_num, trivial⟩
          case measure => simp [intOf]
        · go_wp2_with fail
          go_roundw
          case rel => exact ⟨2, by omega, by go_num, trivial⟩
          case measure => simp [intOf]
        · go_wp2_with fail
          go_ret
          exact ⟨rfl, rfl⟩
    · have hbb : (b == 0) = false := by simpa using hb
      have HF : Hid (firstE 0 b = b) := by show _ = _; unfold firstE; rw [if_neg (by simp)]
      go_enter Tryz.func57, Tryz.ntmps57
      go_wp2_with fail
      go_loopw [8] (fun i wr => ∃ k : Nat, k ≤ 1 ∧ i = .int .i64 k ∧ wr = w) (fun i _ => 2 - (intOf i).toNat)
      case atStart => exact ⟨0, by omega, rfl, rfl⟩
      case round =>
        obtain ⟨k, hk, rfl, rfl⟩ := hrel
        have hkc : k = 0 ∨ k = 1 := by omega
        rcases hkc with rfl | rfl
        · go_wp2_with fail
          go_roundw
          case rel => exact ⟨1, by omega, by go_num, trivial⟩
          case measure => simp [intOf]
        · go_wp2_with fail
          go_ret
          exact ⟨by rw [HF.out]; rfl, rfl⟩
  · have hab : (a == 0) = false := by simpa using ha
    have HF : Hid (firstE a b = a) := by show _ = _; unfold firstE; rw [if_pos ha]
    go_enter Tryz.func57, Tryz.ntmps57
    go_wp2_with fail
    go_loopw [8] (fun i wr => i = .int .i64 0 ∧ wr = w) (fun i _ => 0)
    case atStart => exact ⟨rfl, rfl⟩
    case round =>
      obtain ⟨rfl, rfl⟩ := hrel
      go_wp2_with fail
      go_ret
      exact ⟨by rw [HF.out]; rfl, rfl⟩

/-- The sign says how two things stand. -/
def SignPost (lt eq : Prop) (w : World) (e : Ending) (w' : World) : Prop := ∃ r : Int, e = .returned (.int .i64 r) ∧ (r < 0 ↔ lt) ∧ (r = 0 ↔ eq) ∧ w' = w
theorem cmpI_any (x y : Int) (w : World) : Calls Tryz.prog 58 #[.int .i64 x, .int .i64 y] w (SignPost (x < y) (x = y) w) := by
  refine (Tryz.cmp_Compare x y w).mono ?_
  rintro e w' ⟨rfl, rfl⟩
  refine ⟨_, rfl, ?_, ?_, rfl⟩ <;> unfold Lib.compareInt <;> split <;> first | omega | (split <;> omega)
theorem cmpB_any (x y : List UInt8) (w : World) : Calls Tryz.prog 59 #[.string ⟨x.toArray⟩, .string ⟨y.toArray⟩] w (SignPost (Op.bytesLess x y = true) (x = y) w) := by
  refine (Tryz.strings_Compare ⟨x.toArray⟩ ⟨y.toArray⟩ w).mono ?_
  rintro e w' ⟨rfl, rfl⟩
  exact ⟨_, rfl, cmp_neg x y, cmp_zero x y, rfl⟩
theorem nanS_any (x : List UInt8) (w : World) : Calls Tryz.prog 173 #[.string ⟨x.toArray⟩] w fun e w' => e = .returned (.bool false) ∧ w' = w := by
  go_enter Tryz.func173, Tryz.ntmps173
  go_wp2_with fail
  go_ret
  exact ⟨by first | rfl | simp, rfl⟩
theorem less_asym {x y : List UInt8} (h : Op.bytesLess x y = true) : Op.bytesLess y x = false ∧ x ≠ y := by
  refine ⟨?_, ?_⟩
  · cases h2 : Op.bytesLess y x with
    | false => rfl
    | true => rw [← less_irrefl x, ← less_trans h h2]
  · rintro rfl
    rw [less_irrefl] at h
    cases h
theorem first_sign {a b : Int} {P Q R : Prop} (h1 : a < 0 ↔ P) (h2 : a = 0 ↔ Q) (h3 : b < 0 ↔ R) : firstE a b < 0 ↔ (P ∨ Q ∧ R) := by
  unfold firstE
  rw [← h1, ← h2, ← h3]
  split <;> omega

theorem idxS (n : Nat) (hn : n < 256) : Lib.indexByte [97, 98, 99, 100, 101, 102, 103, 104, 105, 106, 107, 108, 109, 110, 111, 112, 113, 114, 115, 116, 117, 118, 119, 120, 121, 122] ((n : Int).toNat.toUInt8) = if 97 ≤ n ∧ n ≤ 122 then ((n - 97 : Nat) : Int) else -1 := by
  have : ∀ i : Fin 256, Lib.indexByte [97, 98, 99, 100, 101, 102, 103, 104, 105, 106, 107, 108, 109, 110, 111, 112, 113, 114, 115, 116, 117, 118, 119, 120, 121, 122] ((i.val : Int).toNat.toUInt8) = if 97 ≤ i.val ∧ i.val ≤ 122 then ((i.val - 97 : Nat) : Int) else -1 := by decide +kernel
  exact this ⟨n, hn⟩
theorem smallS (n : Nat) (hn : n < 256) (w : World) : Calls Tryz.prog 185 #[.string ⟨#[97, 98, 99, 100, 101, 102, 103, 104, 105, 106, 107, 108, 109, 110, 111, 112, 113, 114, 115, 116, 117, 118, 119, 120, 121, 122]⟩, .int .u8 n] w fun e w' => e = .returned (.int .i64 (if 97 ≤ n ∧ n ≤ 122 then ((n - 97 : Nat) : Int) else -1)) ∧ w' = w := by
  rw [← idxS n hn]
  exact Tryz.strings_IndexByte _ _ w
theorem formFault_any (l : List UInt8) (w : World) (hs : l.length ≤ 1000) : Calls Tryz.prog 28 #[.string ⟨l.toArray⟩] w (ErrPost (if isNumB l = true then 0 else 3) w) := by
  have HD := Lib.hid (fun W => form_l l W hs)
  generalize isNumB l = g at HD ⊢
  cases g <;>
  · go_enter Tryz.func28, Tryz.ntmps28
    go_wp2_with fail
    refine (HD.out _).mono ?_
    rintro e w1 ⟨rfl, hb1⟩
    have HB := Lib.hid hb1
    clear hb1
    go_wp2_with fail
    go_ret
    exact ⟨rfl, HB.out⟩
theorem momentFault_any (n : Int) (w : World) : Calls Tryz.prog 41 #[.int .i64 n] w (ErrPost (if isMomB n = true then 0 else 1) w) := by
  have HG : Hid ((decide (0 ≤ n) && decide (n ≤ 345686399999)) = isMomB n) := by
    show _ = _
    unfold isMomB
    congr 1
    congr 1
    exact propext (by omega)
  generalize isMomB n = g at HG ⊢
  cases g <;>
  · go_enter Tryz.func41, Tryz.ntmps41
    go_wp2_with fail
    refine (in_any _ 0 345686399999 _).mono ?_
    rintro e w1 ⟨rfl, rfl⟩
    rw [HG.out]
    go_wp2_with fail
    go_ret
    exact ⟨rfl, Below.refl _ _⟩
end Go.Proofs.YtacekbbndamkmaaGreatDoor

set_option linter.unusedVariables false
set_option linter.unusedSimpArgs false
namespace Go.Proofs.YtacekbbndamkmaaGreatDoor
open Go.RowKit

theorem within_c (n lo hi : Int) (w : World) : Calls Tryz.prog 55 #[.int .i64 n, .int .i64 lo, .int .i64 hi] w fun e w' => e = .returned (.bool (inB n lo hi)) ∧ w = w' := by
  unfold inB
  by_cases h1 : lo ≤ n
  · go_enter Tryz.func55, Tryz.ntmps55
    go_wp2
    go_ret
    exact ⟨by rw [decide_eq_true h1]; rfl, rfl⟩
  · go_enter Tryz.func55, Tryz.ntmps55
    go_wp2
    go_ret
    exact ⟨by rw [decide_eq_false (show ¬ lo ≤ n by omega)]; rfl, rfl⟩
instance : Inhabited Carr := ⟨noCarr⟩
def idxC (l : List Carr) (key : List UInt8) : Int := Lib.idxBy (fun _ (y : Carr) => decide (y.key = key)) l default
theorem idxC_has (l : List Carr) (key : List UInt8) : decide (0 ≤ idxC l key) = hasC l key := Lib.idxBy_nonneg_iff (fun _ (y : Carr) => decide (y.key = key)) l default
theorem idxC_neg {l : List Carr} {key : List UInt8} : idxC l key < 0 ↔ hasC l key = false := by
  rw [← idxC_has]
  simp
theorem pre48 (c : UInt8) (s : List UInt8) : Lib.hasPrefix (c :: s) [48] = (c == 48) := by
  by_cases h : c = 48
  · subst h; rfl
  · rw [beq_eq_false_iff_ne.2 h]
    have h2 : ((48 : UInt8) == c) = false := beq_eq_false_iff_ne.2 (Ne.symm h)
    show ((48 : UInt8) == c && List.isPrefixOf [] s) = false
    rw [h2]; rfl
theorem isPrefix_c (s : List UInt8) (w : World) (hs : s.length ≤ 1000000) : Calls Tryz.prog 65 #[.string ⟨s.toArray⟩] w fun e w' => e = .returned (.bool (preB s)) ∧ Below w.heap.size w w' := by
  have hcon := fun w => trim_digits ⟨s.toArray⟩ w (by show s.length ≤ _; omega)
  have hd : Hid (preB s = (decide ((s.length : Int) ≤ 15) && ((Lib.trimS s digitSet).isEmpty && !(Lib.hasPrefix s [48])))) := by
    show preB s = _
    have h0 : decide ((0 : Int) ≤ (s.length : Int)) = true := by simp
    unfold preB digitsB allIn
    rw [h0, Bool.true_and, Bool.and_assoc]
  have hcon : ∀ w, Calls Tryz.prog 85 #[.string ⟨s.toArray⟩, .string ⟨#[48, 49, 50, 51, 52, 53, 54, 55, 56, 57]⟩] w fun e w' => e = .returned (.string ⟨(Lib.trimS s digitSet).toArray⟩) ∧ Below w.heap.size w w' := hcon
  have HCON := Lib.hid hcon
  clear hcon
  generalize Lib.trimS s digitSet = r at HCON hd
  generalize preB s = R at hd ⊢
  by_cases hl : (s.length : Int) ≤ 15
  case neg =>
    have HF : Hid (R = false) := by show _ = _; rw [hd.out, decide_eq_false hl]; rfl
    clear hd
    go_enter Tryz.func65, Tryz.ntmps65
    go_wp2_with fail
    go_ret
    exact ⟨by rw [HF.out]; rfl, Below.refl _ _⟩
  rw [decide_eq_true hl, Bool.true_and] at hd
  cases r with
  | cons x r' =>
    have HF : Hid (R = false) := hd.out
    clear hd
    go_enter Tryz.func65, Tryz.ntmps65
    go_wp2_with (go_at_call 85; refine (HCON.out _).mono ?_; rintro e w2 ⟨rfl, hb2⟩)
    go_ret
    exact ⟨by rw [HF.out]; rfl, hb2⟩
  | nil =>
    cases s with
    | nil =>
      have HF : Hid (R = true) := hd.out
      clear hd
      go_enter Tryz.func65, Tryz.ntmps65
      go_wp2_with (go_at_call 85; refine (HCON.out _).mono ?_; rintro e w2 ⟨rfl, hb2⟩)
      go_ret
      exact ⟨by rw [HF.out]; rfl, hb2⟩
    | cons c l' =>
      have HF : Hid (R = (c != 48)) := by show _ = _; rw [hd.out, pre48]; rfl
      clear hd
      go_enter Tryz.func65, Tryz.ntmps65
      go_wp2_with (go_at_call 85; refine (HCON.out _).mono ?_; rintro e w2 ⟨rfl, hb2⟩)
      go_ret
      exact ⟨by rw [HF.out, ← byte_bne48]; rfl, hb2⟩
theorem in_same (n lo hi : Int) (w : World) : Calls Tryz.prog 42 #[.int .i64 n, .int .i64 lo, .int .i64 hi] w fun e w' => e = .returned (.bool (inB n lo hi)) ∧ w = w' := in_any n lo hi w
theorem momF_same (n : Int) (w : World) : Calls Tryz.prog 41 #[.int .i64 n] w fun e w' => e = .returned (.int .i64 (if isMomB n = true then 0 else 1)) ∧ w = w' := by
  have HG : Hid ((decide (0 ≤ n) && decide (n ≤ 345686399999)) = isMomB n) := by
    show _ = _
    unfold isMomB
    congr 1
    congr 1
    exact propext (by omega)
  generalize isMomB n = g at HG ⊢
  cases g <;>
  · go_enter Tryz.func41, Tryz.ntmps41
    go_wp2_with fail
    refine (in_any _ 0 345686399999 _).mono ?_
    rintro e w1 ⟨rfl, rfl⟩
    rw [HG.out]
    go_wp2_with fail
    go_ret
    exact ⟨rfl, rfl⟩
end Go.Proofs.YtacekbbndamkmaaGreatDoor

set_option linter.unusedVariables false
set_option linter.unusedSimpArgs false
namespace Go.Proofs.YtacekbbndamkmaaGreatDoor
open Go.RowKit

theorem deck_cases (d : Deck) (h : d.rates.length ≤ 5000) : (deckNum d = false → deckErr d = 1) ∧ (deckNum d = true →
    (∀ k, k < d.rates.length → (∀ j, j < k → rateErr d.rates j = 0) → rateErr d.rates k ≠ 0 → deckErr d = rateErr d.rates k) ∧ ((∀ j, j < d.rates.length → rateErr d.rates j = 0) → deckErr d = 0)) := by
  unfold deckErr
  refine ⟨fun h1 => by rw [if_pos h1], fun h1 => ⟨fun k k1 k2 k3 => ?_, fun k1 => ?_⟩⟩
  · rw [if_neg (by rw [h1]; decide), if_neg (by omega), first_some k2 k1 k3]
  · rw [if_neg (by rw [h1]; decide), if_neg (by omega), first_none k1]
theorem carrs_cases (l : List Carr) (h : l.length ≤ 50) :
    (∀ k, k < l.length → (∀ j, j < k → carrErr l j = 0) → carrErr l k ≠ 0 → carrsErr l = carrErr l k) ∧ ((∀ j, j < l.length → carrErr l j = 0) → carrsErr l = 0) := by
  unfold carrsErr
  refine ⟨fun k k1 k2 k3 => ?_, fun k1 => ?_⟩
  · rw [if_neg (by omega), first_some k2 k1 k3]
  · rw [if_neg (by omega), first_none k1]
theorem shares_cases (l : List Carr) (s : List Shr) :
    (50 < s.length → sharesErr l s = 2) ∧ (s.length ≤ 50 →
    (∀ k, k < s.length → (∀ j, j < k → shareErr l s j = 0) → shareErr l s k ≠ 0 → sharesErr l s = shareErr l s k) ∧ ((∀ j, j < s.length → shareErr l s j = 0) → sharesErr l s = if partSum s s.length ≠ 1000 then 16 else 0)) := by
  unfold sharesErr
  refine ⟨fun h => by rw [if_pos h], fun h => ⟨fun k k1 k2 k3 => ?_, fun k1 => ?_⟩⟩
  · rw [if_neg (by omega), first_some k2 k1 k3, if_pos k3]
  · rw [if_neg (by omega), first_none k1, if_neg (by simp)]
theorem recs_cases (l : List Carr) (rs : List Rcd) (f t : Int) (h : rs.length ≤ 3000) :
    (∀ k, k < rs.length → (∀ j, j < k → recErr l rs j = 0) → recErr l rs k ≠ 0 → recsErr l rs f t = recErr l rs k) ∧ ((∀ j, j < rs.length → recErr l rs j = 0) → recsErr l rs f t = winErr f t) := by
  unfold recsErr
  refine ⟨fun k k1 k2 k3 => ?_, fun k1 => ?_⟩
  · rw [if_neg (by omega), first_some k2 k1 k3, if_pos k3]
  · rw [if_neg (by omega), first_none k1, if_neg (by simp)]
/-- Parts of the first shares are right, so is their sum. -/
theorem part_bound {l : List Carr} {s : List Shr} : ∀ k, (∀ j, j < k → shareErr l s j = 0) → 0 ≤ partSum s k ∧ partSum s k ≤ 1000 * k
  | 0, _ => by simp [partSum]
  | k + 1, h => by
    have h1 := part_bound k (fun j hj => h j (by omega))
    have h2 := h k (by omega)
    unfold shareErr at h2
    have h3 : inB (s.getD k noShr).part 1 1000 = true := by
      cases h9 : inB (s.getD k noShr).part 1 1000 with
      | true => rfl
      | false => exact absurd h2 (by rw [h9]; split; decide; split; decide; decide)
    unfold inB at h3
    simp only [Bool.and_eq_true, decide_eq_true_eq] at h3
    unfold partSum
    omega
/-- A share of right ones has a right part and a carrier that is there. -/
theorem share_zero {l : List Carr} {s : List Shr} {k : Nat} (h2 : shareErr l s k = 0) : hasC l (s.getD k noShr).c = true ∧ 1 ≤ (s.getD k noShr).part ∧ (s.getD k noShr).part ≤ 1000 := by
  unfold shareErr at h2
  have h4 : hasC l (s.getD k noShr).c = true := by
    cases h9 : hasC l (s.getD k noShr).c with
    | true => rfl
    | false => rw [h9] at h2; simp at h2
  have h3 : inB (s.getD k noShr).part 1 1000 = true := by
    cases h9 : inB (s.getD k noShr).part 1 1000 with
    | true => rfl
    | false => exact absurd h2 (by rw [h9]; split; decide; split; decide; decide)
  unfold inB at h3
  simp only [Bool.and_eq_true, decide_eq_true_eq] at h3
  exact ⟨h4, h3⟩
theorem carr_key {l : List Carr} {k : Nat} (h : carrErr l k = 0) : (l.getD k noCarr).key ≠ [] := by
  intro h9
  unfold carrErr at h
  rw [h9] at h
  have : isKeyB [] = false := rfl
  rw [this] at h
  simp at h
/-- Shares of right carriers name carriers with keys. -/
theorem shares_keys {l : List Carr} {s : List Shr} (hl : l.length ≤ 50) (h : carrsErr l = 0) (hs : sharesErr l s = 0) (hf : s.length ≤ 50) : ∀ i, i < s.length → (s.getD i noShr).c ≠ [] ∧ 1 ≤ (s.getD i noShr).part ∧ (s.getD i noShr).part ≤ 1000 := by
  have z1 : ∀ j, j < l.length → carrErr l j = 0 := first_zero (by unfold carrsErr at h; rw [if_neg (by omega)] at h; exact h)
  have z2 : ∀ j, j < s.length → shareErr l s j = 0 := first_zero (by
    unfold sharesErr at hs
    rw [if_neg (by omega)] at hs
    by_cases h0 : firstErr (shareErr l s) s.length = 0
    · exact h0
    · rw [if_pos h0] at hs; exact absurd hs h0)
  intro i hi
  obtain ⟨h1, h2⟩ := share_zero (z2 i hi)
  refine ⟨fun h9 => ?_, h2⟩
  rw [h9] at h1
  unfold hasC at h1
  rw [List.any_eq_true] at h1
  obtain ⟨x, hx, hx2⟩ := h1
  obtain ⟨j, hj, rfl⟩ := List.getElem_of_mem hx
  have := carr_key (z1 j hj)
  rw [List.getD_eq_getElem?_getD, List.getElem?_eq_getElem hj] at this
  exact this (of_decide_eq_true hx2)
end Go.Proofs.YtacekbbndamkmaaGreatDoor

set_option linter.unusedVariables false
set_option linter.unusedSimpArgs false
namespace Go.Proofs.YtacekbbndamkmaaGreatDoor
open Go.RowKit

set_option maxRecDepth 100000 in
set_option maxHeartbeats 4000000 in
theorem checkDeck_any (w : World) (d : Deck) (hd : DeckFine w d) : Calls Tryz.prog 25 #[.agg d.cells.toArray] w (ErrPost (deckErr d) w) := by
  have hlen := hd.row.len
  have hfew := hd.row.few
  have HC0 := Lib.hid (deck_cases d (by omega))
  have HDN : Hid (deckNum d = (isMomB d.from_ && (inB d.setup 0 100000000 && (inB d.least 0 86400000 && inB d.step 1 86400000)))) := rfl
  have HR0 := Lib.hid hd.row
  have hcap := hd.cap
  clear hd
  obtain ⟨df, ds, dl, dp, ra, rn, rc, rates⟩ := d
  simp only at hlen hfew HC0 HDN HR0 hcap
  generalize deckErr ⟨df, ds, dl, dp, ra, rn, rc, rates⟩ = R at HC0 ⊢
  generalize deckNum ⟨df, ds, dl, dp, ra, rn, rc, rates⟩ = G at HC0 HDN
  rw [← hlen] at HC0
  have HLEN := Lib.hid hlen
  clear hlen
  show Calls Tryz.prog 25 #[.agg #[.int .i64 df, .int .i64 ds, .int .i64 dl, .int .i64 dp, .slice ra rn rc]] w _
  go_enter Tryz.func25, Tryz.ntmps25
  go_wp2_with fail
  refine (isMoment_any df _).mono ?_
  rintro e w1 ⟨rfl, rfl⟩
  generalize isMomB df = g1 at HDN ⊢
  cases g1
  · obtain rfl : R = 1 := HC0.out.1 HDN.out
    clear HC0 HDN
    skip
    as_aux_lemma =>
      go_wp2_with fail
      go_ret
      exact ⟨rfl, ext_alloc (Below.refl _ _)⟩
  skip
  as_aux_lemma =>
    go_wp2_with fail
    refine (within_c ds 0 100000000 _).mono ?_
    rintro e w1 ⟨rfl, rfl⟩
    generalize inB ds 0 100000000 = g2 at HDN ⊢
    cases g2
    · obtain rfl : R = 1 := HC0.out.1 HDN.out
      clear HC0 HDN
      skip
      as_aux_lemma =>
        go_wp2_with fail
        go_ret
        exact ⟨rfl, ext_alloc (Below.refl _ _)⟩
    skip
    as_aux_lemma =>
      go_wp2_with fail
      refine (within_c dl 0 86400000 _).mono ?_
      rintro e w1 ⟨rfl, rfl⟩
      generalize inB dl 0 86400000 = g3 at HDN ⊢
      cases g3
      · obtain rfl : R = 1 := HC0.out.1 HDN.out
        clear HC0 HDN
        skip
        as_aux_lemma =>
          go_wp2_with fail
          go_ret
          exact ⟨rfl, ext_alloc (Below.refl _ _)⟩
      skip
      as_aux_lemma =>
        go_wp2_with fail
        refine (within_c dp 1 86400000 _).mono ?_
        rintro e w1 ⟨rfl, rfl⟩
        generalize inB dp 1 86400000 = g4 at HDN ⊢
        cases g4
        · obtain rfl : R = 1 := HC0.out.1 HDN.out
          clear HC0 HDN
          skip
          as_aux_lemma =>
            go_wp2_with fail
            go_ret
            exact ⟨rfl, ext_alloc (Below.refl _ _)⟩
        have HC := Lib.hid (HC0.out.2 HDN.out)
        have hbig : ¬ (5000 : Int) < rn := by omega
        clear HC0 HDN
        skip
        as_aux_lemma =>
          go_wp2_with fail
          clear hbig
          have HB0 : Hid (Below w.heap.size w (w.alloc (.cells #[.int .i64 df, .int .i64 ds, .int .i64 dl, .int .i64 dp, .slice ra rn rc] 28))) := ext_alloc (Below.refl _ _)
          have b4 : (w.alloc (.cells #[.int .i64 df, .int .i64 ds, .int .i64 dl, .int .i64 dp, .slice ra rn rc] 28)).cell? ⟨w.heap.size, 4, none⟩ = some (.slice ra rn rc) := by go_simp
          have hTl : w.heap.size < (w.alloc (.cells #[.int .i64 df, .int .i64 ds, .int .i64 dl, .int .i64 dp, .slice ra rn rc] 28)).heap.size := by simp
          generalize w.alloc (.cells #[.int .i64 df, .int .i64 ds, .int .i64 dl, .int .i64 dp, .slice ra rn rc] 28) = W0 at HB0 b4 hTl ⊢
          have HR := Lib.hid (HR0.out.below HB0.out)
          clear HR0
          generalize hTT : w.heap.size = T at b4 hTl ⊢
          have HTT := Lib.hid hTT
          clear hTT
          go_loopw [34] (fun it wr => ∃ k : Nat, k ≤ rn ∧ it = .int .i64 k ∧ Hid (∀ j, j < k → rateErr rates j = 0) ∧ Hid (Below W0.heap.size W0 wr)) (fun it _ => rn - (intOf it).toNat)
          case atStart => exact ⟨0, Nat.zero_le _, rfl, fun j hj => by omega, Below.refl _ _⟩
          case round =>
            obtain ⟨k, hk, rfl, HZ, HB⟩ := hrel
            by_cases hlt : k < rn
            case neg =>
              obtain rfl : k = rn := by omega
              obtain rfl : R = 0 := HC.out.2 HZ.out
              clear HC HZ
              as_aux_lemma =>
                go_wp2_with fail
                go_ret
                exact ⟨rfl, ext_trans HB0.out HB.out⟩
            obtain ⟨b, off, rfl, hb, hc⟩ := HR.out.at (by omega)
            have HCC := Lib.hid hc
            obtain ⟨q0, q1, q2⟩ := hc k hlt
            have c0 := (HB.out.cell (p := ⟨b, off + k * 3, none⟩) hb).trans q0
            have c1 := (HB.out.cell (p := ⟨b, off + k * 3 + 1, none⟩) hb).trans q1
            have c2 := (HB.out.cell (p := ⟨b, off + k * 3 + 2, none⟩) hb).trans q2
            have d4 := (HB.out.cell (p := ⟨T, 4, none⟩) hTl).trans b4
            obtain ⟨hpl, hp1, hp2⟩ := HR.out.each k (by rw [← HLEN.out]; exact hlt)
            have HER : Hid (rateErr rates k = if preB (rates.getD k noRate).p = false then 3
              else if 0 < k ∧ Op.bytesLess (rates.getD (k - 1) noRate).p (rates.getD k noRate).p = false then 7
              else if inB (rates.getD k noRate).price 0 100000000 = false then 1
              else if (rates.getD k noRate).closed = true ∧ (rates.getD k noRate).price ≠ 0 then 3
              else 0) := rfl
            have HSTOP := Lib.hid (HC.out.1 k hlt HZ.out)
            have HNX : Hid (rateErr rates k = 0 → ∀ j, j < k + 1 → rateErr rates j = 0) := fun h j hj => by
              rcases Nat.lt_succ_iff_lt_or_eq.1 hj with h9 | rfl
              · exact HZ.out j h9
              · exact h
            have HPV : Hid (0 < k → W0.cell? ⟨b, off + (k - 1) * 3, none⟩ = some (.string ⟨(rates.getD (k - 1) noRate).p.toArray⟩)) := fun h => (HCC.out (k - 1) (by omega)).1
            clear q0 q1 q2 hc HZ HCC HC
            generalize rateErr rates k = X at HER HSTOP HNX
            generalize rates.getD k noRate = r at c0 c1 c2 hpl hp1 hp2 HER
            generalize rates.getD (k - 1) noRate = q at HER HPV
            obtain ⟨rp, rpr, rcl⟩ := r
            obtain ⟨qp, qpr, qcl⟩ := q
            simp only at c0 c1 c2 hpl hp1 hp2 HER HPV
            as_aux_lemma =>
              go_wp2_with fail
              refine (isPrefix_c rp _ (by omega)).mono ?_
              rintro e w3 ⟨rfl, hb3⟩
              obtain ⟨qc, qf⟩ := bcell hb3
              have hz3 : wr.heap.size < w3.heap.size := by have := hb3.size; simp at this; omega
              have e0 : w3.cell? ⟨wr.heap.size, 0, none⟩ = some (.string ⟨rp.toArray⟩) := (qc _ 0 (by simp)).trans (by go_simp)
              have e1 : w3.cell? ⟨wr.heap.size, 1, none⟩ = some (.int .i64 rpr) := (qc _ 1 (by simp)).trans (by go_simp)
              have e2 : w3.cell? ⟨wr.heap.size, 2, none⟩ = some (.bool rcl) := (qc _ 2 (by simp)).trans (by go_simp)
              have HB3 : Hid (Below W0.heap.size W0 w3) := ext_trans (ext_alloc HB.out) hb3
              have d4 := (HB3.out.cell (p := ⟨T, 4, none⟩) hTl).trans b4
              generalize wr.heap.size = Tr at e0 e1 e2 hz3 ⊢
              clear qc qf hb3 c0 c1 c2
              generalize preB rp = g1 at HER ⊢
              cases g1
              · obtain rfl : X = 3 := by rw [HER.out, if_pos rfl]
                obtain rfl : R = 3 := HSTOP.out (by decide)
                clear HER HSTOP HNX HPV
                skip
                as_aux_lemma =>
                  go_wp2_with fail
                  go_ret
                  exact ⟨rfl, ext_trans HB0.out HB3.out⟩
              have HER1 : Hid (X = if 0 < k ∧ Op.bytesLess qp rp = false then 7
                else if inB rpr 0 100000000 = false then 1
                else if rcl = true ∧ rpr ≠ 0 then 3
                else 0) := by show _ = _; rw [HER.out, if_neg (by decide)]
              clear HER
              by_cases hk0 : k = 0
              · subst hk0
                have HER2 : Hid (X = if inB rpr 0 100000000 = false then 1
                  else if rcl = true ∧ rpr ≠ 0 then 3
                  else 0) := by show _ = _; rw [HER1.out, if_neg (fun h => by omega)]
                clear HER1 HPV
                skip
                as_aux_lemma =>
                  go_wp2_with fail
                  go_quiet (fail)
                  go_wp2_with fail
                  refine (within_c rpr 0 100000000 _).mono ?_
                  rintro e w4 ⟨rfl, rfl⟩
                  generalize inB rpr 0 100000000 = g2 at HER2 ⊢
                  cases g2
                  · obtain rfl : X = 1 := by rw [HER2.out, if_pos rfl]
                    obtain rfl : R = 1 := HSTOP.out (by decide)
                    clear HER2 HSTOP HNX
                    skip
                    as_aux_lemma =>
                      go_wp2_with fail
                      go_ret
                      exact ⟨rfl, ext_trans HB0.out (ext_drewN HB3.out)⟩
                  cases rcl
                  · skip
                    have HZ2 := Lib.hid (HNX.out (by rw [HER2.out, if_neg (by decide), if_neg (by simp)]))
                    clear HER2 HSTOP HNX
                    skip
                    as_aux_lemma =>
                      go_wp2_with fail
                      go_roundw
                      case rel => exact ⟨0 + 1, by omega, by go_num, HZ2.out, ext_drewN HB3.out⟩
                      case measure => simp [intOf]; omega
                  by_cases hp0 : rpr = 0
                  · have hpb : (rpr != 0) = false := by simp [hp0]
                    have HP0 := Lib.hid hp0
                    clear hp0
                    have HZ2 := Lib.hid (HNX.out (by rw [HER2.out, if_neg (by decide), if_neg (fun h => h.2 HP0.out)]))
                    clear HER2 HSTOP HNX
                    skip
                    as_aux_lemma =>
                      go_wp2_with fail
                      go_roundw
                      case rel => exact ⟨0 + 1, by omega, by go_num, HZ2.out, ext_drewN HB3.out⟩
                      case measure => simp [intOf]; omega
                  have hpb : (rpr != 0) = true := by simp [hp0]
                  obtain rfl : X = 3 := by rw [HER2.out, if_neg (by decide), if_pos ⟨rfl, hp0⟩]
                  obtain rfl : R = 3 := HSTOP.out (by decide)
                  clear hp0
                  clear HER2 HSTOP HNX
                  skip
                  as_aux_lemma =>
                    go_wp2_with fail
                    go_ret
                    exact ⟨rfl, ext_trans HB0.out (ext_drewN HB3.out)⟩
              obtain ⟨j, rfl⟩ : ∃ j, k = j + 1 := ⟨k - 1, by omega⟩
              have p0 := HPV.out (by omega)
              rw [Nat.add_sub_cancel] at p0
              have g0 := (HB3.out.cell (p := ⟨b, off + j * 3, none⟩) hb).trans p0
              have w1 : IntKind.i64.wrap (j : Int) = j := IntWalk.i64_in _ (by omega)
              have w2 : IntKind.i64.wrap ((j : Int) + 1 - 1) = j := by rw [Int.add_sub_cancel]; exact w1
              have w3 : (j : Int) < rn := by omega
              have w4 : (0 : Int) ≤ (j : Int) := by omega
              clear HPV p0 hk0
              cases hls : Op.bytesLess qp rp
              · obtain rfl : X = 7 := by rw [HER1.out, if_pos ⟨by omega, hls⟩]
                obtain rfl : R = 7 := HSTOP.out (by decide)
                clear HER1 HSTOP HNX
                by_cases hxe : rp = qp
                · subst hxe
                  skip
                  as_aux_lemma =>
                    go_wp2_with fail
                    go_quiet (fail)
                    go_wp2_with fail
                    go_ret
                    exact ⟨rfl, ext_trans HB0.out (ext_drewN HB3.out)⟩
                · have hx1 : Op.bytesLess rp qp = true := less_total qp rp hls (Ne.symm hxe)
                  skip
                  as_aux_lemma =>
                    go_wp2_with fail
                    go_quiet (fail)
                    go_wp2_with fail
                    go_ret
                    exact ⟨rfl, ext_trans HB0.out (ext_drewN HB3.out)⟩
              have HER2 : Hid (X = if inB rpr 0 100000000 = false then 1
                else if rcl = true ∧ rpr ≠ 0 then 3
                else 0) := by show _ = _; rw [HER1.out, if_neg (fun h => by rw [hls] at h; cases h.2)]
              obtain ⟨hx1, hx2⟩ := less_asym hls
              have hx3 : (rp == qp) = false := beq_eq_false_iff_ne.2 (fun e => hx2 e.symm)
              clear HER1 hx2
              skip
              as_aux_lemma =>
                go_wp2_with fail
                go_quiet (fail)
                go_wp2_with fail
                refine (within_c rpr 0 100000000 _).mono ?_
                rintro e w4 ⟨rfl, rfl⟩
                generalize inB rpr 0 100000000 = g2 at HER2 ⊢
                cases g2
                · obtain rfl : X = 1 := by rw [HER2.out, if_pos rfl]
                  obtain rfl : R = 1 := HSTOP.out (by decide)
                  clear HER2 HSTOP HNX
                  skip
                  as_aux_lemma =>
                    go_wp2_with fail
                    go_ret
                    exact ⟨rfl, ext_trans HB0.out (ext_drewN HB3.out)⟩
                cases rcl
                · skip
                  have HZ2 := Lib.hid (HNX.out (by rw [HER2.out, if_neg (by decide), if_neg (by simp)]))
                  clear HER2 HSTOP HNX
                  skip
                  as_aux_lemma =>
                    go_wp2_with fail
                    go_roundw
                    case rel => exact ⟨j + 1 + 1, by omega, by go_num, HZ2.out, ext_drewN HB3.out⟩
                    case measure => simp [intOf]; omega
                by_cases hp0 : rpr = 0
                · have hpb : (rpr != 0) = false := by simp [hp0]
                  have HP0 := Lib.hid hp0
                  clear hp0
                  have HZ2 := Lib.hid (HNX.out (by rw [HER2.out, if_neg (by decide), if_neg (fun h => h.2 HP0.out)]))
                  clear HER2 HSTOP HNX
                  skip
                  as_aux_lemma =>
                    go_wp2_with fail
                    go_roundw
                    case rel => exact ⟨j + 1 + 1, by omega, by go_num, HZ2.out, ext_drewN HB3.out⟩
                    case measure => simp [intOf]; omega
                have hpb : (rpr != 0) = true := by simp [hp0]
                obtain rfl : X = 3 := by rw [HER2.out, if_neg (by decide), if_pos ⟨rfl, hp0⟩]
                obtain rfl : R = 3 := HSTOP.out (by decide)
                clear hp0
                clear HER2 HSTOP HNX
                skip
                as_aux_lemma =>
                  go_wp2_with fail
                  go_ret
                  exact ⟨rfl, ext_trans HB0.out (ext_drewN HB3.out)⟩
end Go.Proofs.YtacekbbndamkmaaGreatDoor

set_option linter.unusedVariables false
set_option linter.unusedSimpArgs false
namespace Go.Proofs.YtacekbbndamkmaaGreatDoor
open Go.RowKit

set_option maxRecDepth 100000 in
set_option maxHeartbeats 4000000 in
theorem deckFault_any (w : World) (d : Deck) (hd : DeckFine w d) : Calls Tryz.prog 7 #[.agg d.cells.toArray] w (ErrPost (deckErr d) w) := by
  have hlen := hd.row.len
  have hfew := hd.row.few
  have HC0 := Lib.hid (deck_cases d (by omega))
  have HDN : Hid (deckNum d = (isMomB d.from_ && (inB d.setup 0 100000000 && (inB d.least 0 86400000 && inB d.step 1 86400000)))) := rfl
  have HR0 := Lib.hid hd.row
  have hcap := hd.cap
  clear hd
  obtain ⟨df, ds, dl, dp, ra, rn, rc, rates⟩ := d
  simp only at hlen hfew HC0 HDN HR0 hcap
  generalize deckErr ⟨df, ds, dl, dp, ra, rn, rc, rates⟩ = R at HC0 ⊢
  generalize deckNum ⟨df, ds, dl, dp, ra, rn, rc, rates⟩ = G at HC0 HDN
  rw [← hlen] at HC0
  have HLEN := Lib.hid hlen
  clear hlen
  show Calls Tryz.prog 7 #[.agg #[.int .i64 df, .int .i64 ds, .int .i64 dl, .int .i64 dp, .slice ra rn rc]] w _
  go_enter Tryz.func7, Tryz.ntmps7
  go_wp2_with fail
  refine (momF_same df _).mono ?_
  rintro e w1 ⟨rfl, rfl⟩
  generalize isMomB df = g1 at HDN ⊢
  cases g1
  · obtain rfl : R = 1 := HC0.out.1 HDN.out
    clear HC0 HDN
    skip
    as_aux_lemma =>
      go_wp2_with fail
      go_ret
      exact ⟨rfl, ext_alloc (Below.refl _ _)⟩
  skip
  as_aux_lemma =>
    go_wp2_with fail
    refine (in_same ds 0 100000000 _).mono ?_
    rintro e w1 ⟨rfl, rfl⟩
    generalize inB ds 0 100000000 = g2 at HDN ⊢
    cases g2
    · obtain rfl : R = 1 := HC0.out.1 HDN.out
      clear HC0 HDN
      skip
      as_aux_lemma =>
        go_wp2_with fail
        go_ret
        exact ⟨rfl, ext_alloc (Below.refl _ _)⟩
    skip
    as_aux_lemma =>
      go_wp2_with fail
      refine (in_same dl 0 86400000 _).mono ?_
      rintro e w1 ⟨rfl, rfl⟩
      generalize inB dl 0 86400000 = g3 at HDN ⊢
      cases g3
      · obtain rfl : R = 1 := HC0.out.1 HDN.out
        clear HC0 HDN
        skip
        as_aux_lemma =>
          go_wp2_with fail
          go_ret
          exact ⟨rfl, ext_alloc (Below.refl _ _)⟩
      skip
      as_aux_lemma =>
        go_wp2_with fail
        refine (in_same dp 1 86400000 _).mono ?_
        rintro e w1 ⟨rfl, rfl⟩
        generalize inB dp 1 86400000 = g4 at HDN ⊢
        cases g4
        · obtain rfl : R = 1 := HC0.out.1 HDN.out
          clear HC0 HDN
          skip
          as_aux_lemma =>
            go_wp2_with fail
            go_ret
            exact ⟨rfl, ext_alloc (Below.refl _ _)⟩
        have HC := Lib.hid (HC0.out.2 HDN.out)
        have hbig : ¬ (5000 : Int) < rn := by omega
        clear HC0 HDN
        skip
        as_aux_lemma =>
          go_wp2_with fail
          clear hbig
          have HB0 : Hid (Below w.heap.size w (w.alloc (.cells #[.int .i64 df, .int .i64 ds, .int .i64 dl, .int .i64 dp, .slice ra rn rc] 28))) := ext_alloc (Below.refl _ _)
          have b4 : (w.alloc (.cells #[.int .i64 df, .int .i64 ds, .int .i64 dl, .int .i64 dp, .slice ra rn rc] 28)).cell? ⟨w.heap.size, 4, none⟩ = some (.slice ra rn rc) := by go_simp
          have hTl : w.heap.size < (w.alloc (.cells #[.int .i64 df, .int .i64 ds, .int .i64 dl, .int .i64 dp, .slice ra rn rc] 28)).heap.size := by simp
          generalize w.alloc (.cells #[.int .i64 df, .int .i64 ds, .int .i64 dl, .int .i64 dp, .slice ra rn rc] 28) = W0 at HB0 b4 hTl ⊢
          have HR := Lib.hid (HR0.out.below HB0.out)
          clear HR0
          generalize hTT : w.heap.size = T at b4 hTl ⊢
          have HTT := Lib.hid hTT
          clear hTT
          go_loopw [36] (fun it wr => ∃ k : Nat, k ≤ rn ∧ it = .int .i64 k ∧ Hid (∀ j, j < k → rateErr rates j = 0) ∧ Hid (Below W0.heap.size W0 wr)) (fun it _ => rn - (intOf it).toNat)
          case atStart => exact ⟨0, Nat.zero_le _, rfl, fun j hj => by omega, Below.refl _ _⟩
          case round =>
            obtain ⟨k, hk, rfl, HZ, HB⟩ := hrel
            by_cases hlt : k < rn
            case neg =>
              obtain rfl : k = rn := by omega
              obtain rfl : R = 0 := HC.out.2 HZ.out
              clear HC HZ
              as_aux_lemma =>
                go_wp2_with fail
                go_ret
                exact ⟨rfl, ext_trans HB0.out HB.out⟩
            obtain ⟨b, off, rfl, hb, hc⟩ := HR.out.at (by omega)
            have HCC := Lib.hid hc
            obtain ⟨q0, q1, q2⟩ := hc k hlt
            have c0 := (HB.out.cell (p := ⟨b, off + k * 3, none⟩) hb).trans q0
            have c1 := (HB.out.cell (p := ⟨b, off + k * 3 + 1, none⟩) hb).trans q1
            have c2 := (HB.out.cell (p := ⟨b, off + k * 3 + 2, none⟩) hb).trans q2
            have d4 := (HB.out.cell (p := ⟨T, 4, none⟩) hTl).trans b4
            obtain ⟨hpl, hp1, hp2⟩ := HR.out.each k (by rw [← HLEN.out]; exact hlt)
            have HER : Hid (rateErr rates k = if preB (rates.getD k noRate).p = false then 3
              else if 0 < k ∧ Op.bytesLess (rates.getD (k - 1) noRate).p (rates.getD k noRate).p = false then 7
              else if inB (rates.getD k noRate).price 0 100000000 = false then 1
              else if (rates.getD k noRate).closed = true ∧ (rates.getD k noRate).price ≠ 0 then 3
              else 0) := rfl
            have HSTOP := Lib.hid (HC.out.1 k hlt HZ.out)
            have HNX : Hid (rateErr rates k = 0 → ∀ j, j < k + 1 → rateErr rates j = 0) := fun h j hj => by
              rcases Nat.lt_succ_iff_lt_or_eq.1 hj with h9 | rfl
              · exact HZ.out j h9
              · exact h
            have HPV : Hid (0 < k → W0.cell? ⟨b, off + (k - 1) * 3, none⟩ = some (.string ⟨(rates.getD (k - 1) noRate).p.toArray⟩)) := fun h => (HCC.out (k - 1) (by omega)).1
            clear q0 q1 q2 hc HZ HCC HC
            generalize rateErr rates k = X at HER HSTOP HNX
            generalize rates.getD k noRate = r at c0 c1 c2 hpl hp1 hp2 HER
            generalize rates.getD (k - 1) noRate = q at HER HPV
            obtain ⟨rp, rpr, rcl⟩ := r
            obtain ⟨qp, qpr, qcl⟩ := q
            simp only at c0 c1 c2 hpl hp1 hp2 HER HPV
            as_aux_lemma =>
              go_wp2_with fail
              refine (digital_l rp 0 15 _ (by omega)).mono ?_
              rintro e w3 ⟨rfl, hb3⟩
              obtain ⟨qc, qf⟩ := bcell hb3
              have hz3 : wr.heap.size < w3.heap.size := by have := hb3.size; simp at this; omega
              have e0 : w3.cell? ⟨wr.heap.size, 0, none⟩ = some (.string ⟨rp.toArray⟩) := (qc _ 0 (by simp)).trans (by go_simp)
              have e1 : w3.cell? ⟨wr.heap.size, 1, none⟩ = some (.int .i64 rpr) := (qc _ 1 (by simp)).trans (by go_simp)
              have e2 : w3.cell? ⟨wr.heap.size, 2, none⟩ = some (.bool rcl) := (qc _ 2 (by simp)).trans (by go_simp)
              have HB3 : Hid (Below W0.heap.size W0 w3) := ext_trans (ext_alloc HB.out) hb3
              have d4 := (HB3.out.cell (p := ⟨T, 4, none⟩) hTl).trans b4
              generalize wr.heap.size = Tr at e0 e1 e2 hz3 ⊢
              clear qc qf hb3 c0 c1 c2
              have HPB : Hid (preB rp = (digitsB rp 0 15 && !(Lib.hasPrefix rp [48]))) := rfl
              generalize digitsB rp 0 15 = gd at HPB ⊢
              cases gd
              · obtain rfl : X = 3 := by rw [HER.out, if_pos (show preB rp = false from HPB.out)]
                obtain rfl : R = 3 := HSTOP.out (by decide)
                clear HPB
                clear HER HSTOP HNX HPV
                skip
                as_aux_lemma =>
                  go_wp2_with fail
                  go_ret
                  exact ⟨rfl, ext_trans HB0.out HB3.out⟩
              skip
              as_aux_lemma =>
                go_wp2_with fail
                refine (hasPrefix_l rp [48] _).mono ?_
                rintro e w4 ⟨rfl, rfl⟩
                have HPB2 : Hid (preB rp = !(Lib.hasPrefix rp [48])) := HPB.out
                clear HPB
                generalize Lib.hasPrefix rp [48] = gp at HPB2 ⊢
                generalize preB rp = g1 at HER HPB2
                cases gp
                case true =>
                  obtain rfl : X = 3 := by rw [HER.out, if_pos (show g1 = false from HPB2.out)]
                  obtain rfl : R = 3 := HSTOP.out (by decide)
                  clear HPB2
                  clear HER HSTOP HNX HPV
                  skip
                  as_aux_lemma =>
                    go_wp2_with fail
                    go_ret
                    exact ⟨rfl, ext_trans HB0.out HB3.out⟩
                obtain rfl : g1 = true := HPB2.out
                clear HPB2
                have HER1 : Hid (X = if 0 < k ∧ Op.bytesLess qp rp = false then 7
                  else if inB rpr 0 100000000 = false then 1
                  else if rcl = true ∧ rpr ≠ 0 then 3
                  else 0) := by show _ = _; rw [HER.out, if_neg (by decide)]
                clear HER
                by_cases hk0 : k = 0
                · subst hk0
                  have HER2 : Hid (X = if inB rpr 0 100000000 = false then 1
                    else if rcl = true ∧ rpr ≠ 0 then 3
                    else 0) := by show _ = _; rw [HER1.out, if_neg (fun h => by omega)]
                  clear HER1 HPV
                  skip
                  as_aux_lemma =>
                    go_wp2_with fail
                    go_quiet (fail)
                    go_wp2_with fail
                    refine (in_same rpr 0 100000000 _).mono ?_
                    rintro e w4 ⟨rfl, rfl⟩
                    generalize inB rpr 0 100000000 = g2 at HER2 ⊢
                    cases g2
                    · obtain rfl : X = 1 := by rw [HER2.out, if_pos rfl]
                      obtain rfl : R = 1 := HSTOP.out (by decide)
                      clear HER2 HSTOP HNX
                      skip
                      as_aux_lemma =>
                        go_wp2_with fail
                        go_ret
                        exact ⟨rfl, ext_trans HB0.out (ext_drewN HB3.out)⟩
                    cases rcl
                    · skip
                      have HZ2 := Lib.hid (HNX.out (by rw [HER2.out, if_neg (by decide), if_neg (by simp)]))
                      clear HER2 HSTOP HNX
                      skip
                      as_aux_lemma =>
                        go_wp2_with fail
                        go_roundw
                        case rel => exact ⟨0 + 1, by omega, by go_num, HZ2.out, ext_drewN HB3.out⟩
                        case measure => simp [intOf]; omega
                    by_cases hp0 : rpr = 0
                    · have hpb : (rpr != 0) = false := by simp [hp0]
                      have HP0 := Lib.hid hp0
                      clear hp0
                      have HZ2 := Lib.hid (HNX.out (by rw [HER2.out, if_neg (by decide), if_neg (fun h => h.2 HP0.out)]))
                      clear HER2 HSTOP HNX
                      skip
                      as_aux_lemma =>
                        go_wp2_with fail
                        go_roundw
                        case rel => exact ⟨0 + 1, by omega, by go_num, HZ2.out, ext_drewN HB3.out⟩
                        case measure => simp [intOf]; omega
                    have hpb : (rpr != 0) = true := by simp [hp0]
                    obtain rfl : X = 3 := by rw [HER2.out, if_neg (by decide), if_pos ⟨rfl, hp0⟩]
                    obtain rfl : R = 3 := HSTOP.out (by decide)
                    clear hp0
                    clear HER2 HSTOP HNX
                    skip
                    as_aux_lemma =>
                      go_wp2_with fail
                      go_ret
                      exact ⟨rfl, ext_trans HB0.out (ext_drewN HB3.out)⟩
                obtain ⟨j, rfl⟩ : ∃ j, k = j + 1 := ⟨k - 1, by omega⟩
                have p0 := HPV.out (by omega)
                rw [Nat.add_sub_cancel] at p0
                have g0 := (HB3.out.cell (p := ⟨b, off + j * 3, none⟩) hb).trans p0
                have w1 : IntKind.i64.wrap (j : Int) = j := IntWalk.i64_in _ (by omega)
                have w2 : IntKind.i64.wrap ((j : Int) + 1 - 1) = j := by rw [Int.add_sub_cancel]; exact w1
                have w3 : (j : Int) < rn := by omega
                have w4 : (0 : Int) ≤ (j : Int) := by omega
                clear HPV p0 hk0
                cases hls : Op.bytesLess qp rp
                · obtain rfl : X = 7 := by rw [HER1.out, if_pos ⟨by omega, hls⟩]
                  obtain rfl : R = 7 := HSTOP.out (by decide)
                  clear HER1 HSTOP HNX
                  by_cases hxe : rp = qp
                  · subst hxe
                    skip
                    as_aux_lemma =>
                      go_wp2_with fail
                      go_quiet (fail)
                      go_wp2_with fail
                      go_ret
                      exact ⟨rfl, ext_trans HB0.out (ext_drewN HB3.out)⟩
                  · have hx1 : Op.bytesLess rp qp = true := less_total qp rp hls (Ne.symm hxe)
                    skip
                    as_aux_lemma =>
                      go_wp2_with fail
                      go_quiet (fail)
                      go_wp2_with fail
                      go_ret
                      exact ⟨rfl, ext_trans HB0.out (ext_drewN HB3.out)⟩
                have HER2 : Hid (X = if inB rpr 0 100000000 = false then 1
                  else if rcl = true ∧ rpr ≠ 0 then 3
                  else 0) := by show _ = _; rw [HER1.out, if_neg (fun h => by rw [hls] at h; cases h.2)]
                obtain ⟨hx1, hx2⟩ := less_asym hls
                have hx3 : (rp == qp) = false := beq_eq_false_iff_ne.2 (fun e => hx2 e.symm)
                clear HER1 hx2
                skip
                as_aux_lemma =>
                  go_wp2_with fail
                  go_quiet (fail)
                  go_wp2_with fail
                  refine (in_same rpr 0 100000000 _).mono ?_
                  rintro e w4 ⟨rfl, rfl⟩
                  generalize inB rpr 0 100000000 = g2 at HER2 ⊢
                  cases g2
                  · obtain rfl : X = 1 := by rw [HER2.out, if_pos rfl]
                    obtain rfl : R = 1 := HSTOP.out (by decide)
                    clear HER2 HSTOP HNX
                    skip
                    as_aux_lemma =>
                      go_wp2_with fail
                      go_ret
                      exact ⟨rfl, ext_trans HB0.out (ext_drewN HB3.out)⟩
                  cases rcl
                  · skip
                    have HZ2 := Lib.hid (HNX.out (by rw [HER2.out, if_neg (by decide), if_neg (by simp)]))
                    clear HER2 HSTOP HNX
                    skip
                    as_aux_lemma =>
                      go_wp2_with fail
                      go_roundw
                      case rel => exact ⟨j + 1 + 1, by omega, by go_num, HZ2.out, ext_drewN HB3.out⟩
                      case measure => simp [intOf]; omega
                  by_cases hp0 : rpr = 0
                  · have hpb : (rpr != 0) = false := by simp [hp0]
                    have HP0 := Lib.hid hp0
                    clear hp0
                    have HZ2 := Lib.hid (HNX.out (by rw [HER2.out, if_neg (by decide), if_neg (fun h => h.2 HP0.out)]))
                    clear HER2 HSTOP HNX
                    skip
                    as_aux_lemma =>
                      go_wp2_with fail
                      go_roundw
                      case rel => exact ⟨j + 1 + 1, by omega, by go_num, HZ2.out, ext_drewN HB3.out⟩
                      case measure => simp [intOf]; omega
                  have hpb : (rpr != 0) = true := by simp [hp0]
                  obtain rfl : X = 3 := by rw [HER2.out, if_neg (by decide), if_pos ⟨rfl, hp0⟩]
                  obtain rfl : R = 3 := HSTOP.out (by decide)
                  clear hp0
                  clear HER2 HSTOP HNX
                  skip
                  as_aux_lemma =>
                    go_wp2_with fail
                    go_ret
                    exact ⟨rfl, ext_trans HB0.out (ext_drewN HB3.out)⟩
end Go.Proofs.YtacekbbndamkmaaGreatDoor

set_option linter.unusedVariables false
set_option linter.unusedSimpArgs false
namespace Go.Proofs.YtacekbbndamkmaaGreatDoor
open Go.RowKit

/-- Block B holds just these cells. -/
structure Blk (w : World) (B : Nat) (cs : List Value) (ty : TypeId) : Prop where
  at_ : w.heap[B]? = some (.cells cs.toArray ty (0, 0))
theorem Blk.lt {w : World} {B : Nat} {cs : List Value} {ty : TypeId} (h : Blk w B cs ty) : B < w.heap.size := (Array.getElem?_eq_some_iff.1 h.at_).1
theorem Blk.cell {w : World} {B : Nat} {cs : List Value} {ty : TypeId} (h : Blk w B cs ty) (i : Nat) {v : Value} (hv : cs[i]? = some v) : w.cell? ⟨B, i, none⟩ = some v := by
  simp [World.cell?, h.at_, hv]
theorem Blk.fr {w : World} {B : Nat} {cs : List Value} {ty : TypeId} (h : Blk w B cs ty) (j : Nat) : w.frozen? ⟨B, j, none⟩ = false := by
  simp [World.frozen?, h.at_]
theorem Blk.same {w w' : World} {B : Nat} {cs : List Value} {ty : TypeId} (h : Blk w B cs ty) (hb : w'.heap[B]? = w.heap[B]?) : Blk w' B cs ty := ⟨hb.trans h.at_⟩
theorem Blk.keeps {S : Nat} {w w' : World} {B : Nat} {cs : List Value} {ty : TypeId} (h : Blk w B cs ty) (hk : Keeps S w w') (hn : B ≠ S) : Blk w' B cs ty := h.same (hk.block B h.lt hn)
theorem Blk.below {w w' : World} {B : Nat} {cs : List Value} {ty : TypeId} (h : Blk w B cs ty) (hb : Below w.heap.size w w') : Blk w' B cs ty := h.same (hb.block B h.lt)
theorem Blk.grown {w w' : World} {B : Nat} {cs : List Value} {ty : TypeId} {row : Option Nat} (h : Blk w B cs ty) (hg : w.grownBy w' row) (hn : row ≠ some B) : Blk w' B cs ty := h.same (hg.block B h.lt (fun e => hn e.symm))
theorem Blk.far {w : World} {B : Nat} {cs : List Value} {ty : TypeId} {p : Addr} {u : Value} (h : Blk w B cs ty) (hn : p.block ≠ B) : Blk (w.setCell p u) B cs ty := h.same (Below.heap_setCell _ _ _ _ (Ne.symm hn))
theorem Blk.alloc {w : World} {B : Nat} {cs : List Value} {ty : TypeId} (h : Blk w B cs ty) (o : Obj) : Blk (w.alloc o) B cs ty := h.same (Below.heap_alloc _ _ _ h.lt)
theorem Blk.new (w : World) (cs : List Value) (ty : TypeId) : Blk (w.alloc (.cells cs.toArray ty)) w.heap.size cs ty := ⟨by
  show (w.heap.push _)[w.heap.size]? = _
  simp⟩
theorem Blk.put {w : World} {B : Nat} {cs : List Value} {ty : TypeId} (h : Blk w B cs ty) (i : Nat) (u : Value) : Blk (w.setCell ⟨B, i, none⟩ u) B (cs.set i u) ty := ⟨by
  simp [World.setCell, Array.getElem?_modify, h.at_]⟩
theorem Blk.size {w : World} {B : Nat} {cs : List Value} {ty : TypeId} (h : Blk w B cs ty) : (w.cell? ⟨B, cs.length, none⟩) = none := by
  simp [World.cell?, h.at_]
theorem Blk.th {w : World} {B : Nat} {cs : List Value} {ty : TypeId} (h : Blk w B cs ty) (n : Nat) (hn : n ≤ cs.length) : w.there B 0 n := fun j hj => by
  refine ⟨?_, ?_⟩
  · simp [World.cell?, h.at_]; omega
  · simp [World.frozen?, h.at_]
end Go.Proofs.YtacekbbndamkmaaGreatDoor

set_option linter.unusedVariables false
set_option linter.unusedSimpArgs false
namespace Go.Proofs.YtacekbbndamkmaaGreatDoor
open Go.RowKit

/-- The rates are in order, each before the next. -/
def RSorted (cs : List Rate) : Prop := ∀ i, 0 < i → i < cs.length → Op.bytesLess (cs.getD (i - 1) noRate).p (cs.getD i noRate).p = true
theorem RSorted.lt {cs : List Rate} (h : RSorted cs) : ∀ (i d : Nat), i + (d + 1) < cs.length → Op.bytesLess (cs.getD i noRate).p (cs.getD (i + (d + 1)) noRate).p = true
  | i, 0, hi => h (i + 1) (by omega) hi
  | i, d + 1, hi => by
    have h1 := RSorted.lt h i d (by omega)
    have h2 := h (i + (d + 1) + 1) (by omega) (by omega)
    exact less_trans h1 h2
theorem RSorted.lt' {cs : List Rate} (h : RSorted cs) {i j : Nat} (hij : i < j) (hj : j < cs.length) : Op.bytesLess (cs.getD i noRate).p (cs.getD j noRate).p = true := by
  have := h.lt i (j - i - 1) (by omega)
  rwa [show i + (j - i - 1 + 1) = j by omega] at this
def rcmp (cs : List Rate) (t : List UInt8) (i : Nat) : Int := Lib.compareBytes (cs.getD i noRate).p t
theorem rcmp_mono {cs : List Rate} (h : RSorted cs) {t : List UInt8} {i j : Nat} (hij : i ≤ j) (hj : j < cs.length) (hc : rcmp cs t j < 0) : rcmp cs t i < 0 := by
  rcases Nat.lt_or_eq_of_le hij with h' | rfl
  · unfold rcmp at hc ⊢
    rw [cmp_neg] at hc ⊢
    exact less_trans (h.lt' h' hj) hc
  · exact hc
def findR (cs : List Rate) (t : List UInt8) : Option Rate := cs.find? (fun c => c.p == t)
theorem findR_hit {cs : List Rate} (h : RSorted cs) {t : List UInt8} {i : Nat} (hi : i < cs.length) (hc : rcmp cs t i = 0) : findR cs t = some (cs.getD i noRate) := by
  unfold rcmp at hc
  rw [cmp_zero] at hc
  unfold findR
  rw [List.find?_eq_some_iff_getElem]
  have e : cs.getD i noRate = cs[i] := by simp [List.getD_eq_getElem?_getD, List.getElem?_eq_getElem hi]
  refine ⟨by simpa using hc, i, hi, e.symm, fun j hj => ?_⟩
  have e2 : cs.getD j noRate = cs[j] := by simp [List.getD_eq_getElem?_getD, List.getElem?_eq_getElem (Nat.lt_trans hj hi)]
  have := h.lt' hj hi
  rw [hc, e2] at this
  simp only [Bool.not_eq_true', beq_eq_false_iff_ne]
  intro e3
  rw [e3, less_irrefl] at this
  cases this
theorem findR_miss {cs : List Rate} (h : RSorted cs) {t : List UInt8} {i : Nat} (hi : i ≤ cs.length) (h1 : ∀ m, m < i → rcmp cs t m < 0) (h2 : ∀ m, i ≤ m → m < cs.length → ¬ rcmp cs t m < 0) (h3 : i < cs.length → rcmp cs t i ≠ 0) : findR cs t = none := by
  unfold findR
  rw [List.find?_eq_none]
  intro c hc hp
  obtain ⟨j, hj, rfl⟩ := List.getElem_of_mem hc
  have e : cs.getD j noRate = cs[j] := by simp [List.getD_eq_getElem?_getD, List.getElem?_eq_getElem hj]
  have hp' : cs[j].p = t := by simpa using hp
  have hz : rcmp cs t j = 0 := by unfold rcmp; rw [cmp_zero, e]; exact hp'
  by_cases hji : j < i
  · have := h1 j hji; omega
  · by_cases hje : j = i
    · subst hje; exact h3 hj hz
    · have hlt : i < j := by omega
      have := h2 i (Nat.le_refl _) (by omega)
      apply this
      unfold rcmp
      rw [cmp_neg]
      have hl := h.lt' hlt hj
      rw [e, hp'] at hl
      exact hl
theorem rate1_any (p t : List UInt8) (a : Int) (b : Bool) (w : World) :
    Calls Tryz.prog 93 #[.agg #[.string ⟨p.toArray⟩, .int .i64 a, .bool b], .string ⟨t.toArray⟩] w fun e w' => e = .returned (.int .i64 (Lib.compareBytes p t)) ∧ Below w.heap.size w w' := by
  have hcon := fun w => Tryz.strings_Compare ⟨p.toArray⟩ ⟨t.toArray⟩ w
  change ∀ w, Calls _ _ _ w fun e w' => e = .returned (.int .i64 (Lib.compareBytes p t)) ∧ w' = w at hcon
  generalize Lib.compareBytes p t = r at hcon ⊢
  go_enter Tryz.func93, Tryz.ntmps93
  go_wp2_with (go_at_call 59; refine (hcon _).mono ?_; rintro e w' ⟨rfl, rfl⟩)
  go_ret
  exact ⟨rfl, (by (try show Below _ _ _); repeat (with_reducible first | exact Below.refl _ _ | assumption | exact Hid.out (by assumption) | refine ext_alloc ?_ | refine ext_drewN ?_ | refine ext_drew ?_ | refine ext_setCell ?_ (Nat.le_refl _) | refine ext_setCell ?_ (Nat.le_succ _) | refine ext_trans ?_ (by assumption) | (refine ext_setCell ?_ (by simp)) | (refine ext_setCell ?_ (by simp at *; omega))))⟩
/-- What the search comes to. -/
def RFound (cs : List Rate) (t : List UInt8) (n : Nat) (w : World) (e : Ending) (w' : World) : Prop :=
  Below w.heap.size w w' ∧ ((∃ i, i < n ∧ e = .returned (.tuple #[.int .i64 (i : Nat), .bool true]) ∧ findR cs t = some (cs.getD i noRate)) ∨ ∃ i : Int, e = .returned (.tuple #[.int .i64 i, .bool false]) ∧ findR cs t = none)

set_option maxHeartbeats 1000000 in
theorem searchR_any (w : World) (a : Option Addr) (n cap : Nat) (cs : List Rate) (t : List UInt8) (hr : RateRow w a n cs) (ho : RSorted cs) :
    Calls Tryz.prog 92 #[.slice a n cap, .string ⟨t.toArray⟩, .func (.func 93) #[] #[]] w (RFound cs t n w) := by
  have Hn := Lib.hid hr.len
  have hn2 := hr.few
  have Hr := Lib.hid hr
  have Ho := Lib.hid ho
  clear hr ho
  go_enter Tryz.func92, Tryz.ntmps92
  go_wp2_with fail
  go_loopw [9, 10] (fun s9 s10 wr => ∃ i j : Nat, i ≤ j ∧ j ≤ n ∧ s9 = .int .i64 i ∧ s10 = .int .i64 j ∧ Hid (Below w.heap.size w wr) ∧ Hid (∀ m, m < i → rcmp cs t m < 0) ∧ Hid (∀ m, j ≤ m → m < n → 0 ≤ rcmp cs t m)) (fun s9 s10 _ => (intOf s10).toNat - (intOf s9).toNat)
  case atStart => exact ⟨0, n, Nat.zero_le _, Nat.le_refl _, rfl, rfl, Below.refl _ _, fun m hm => absurd hm (by omega), fun m h1 h2 => absurd h1 (by omega)⟩
  case round =>
    obtain ⟨i, j, hij, hjn, rfl, rfl, HB, HL, HU⟩ := hrel
    by_cases hlt : i < j
    · obtain ⟨b, off, rfl, hb, hc⟩ := Hr.out.at (by omega)
      obtain ⟨q0, q1, q2⟩ := hc ((i + j) / 2) (by omega)
      have c0 := (HB.out.cell (p := ⟨b, off + ((i + j) / 2) * 3, none⟩) hb).trans q0
      have c1 := (HB.out.cell (p := ⟨b, off + ((i + j) / 2) * 3 + 1, none⟩) hb).trans q1
      have c2 := (HB.out.cell (p := ⟨b, off + ((i + j) / 2) * 3 + 2, none⟩) hb).trans q2
      have hcmp : Hid (rcmp cs t ((i + j) / 2) = Lib.compareBytes (cs.getD ((i + j) / 2) noRate).p t) := rfl
      clear hc Hr q0 q1 q2
      generalize cs.getD ((i + j) / 2) noRate = cl at c0 c1 c2 hcmp
      go_wp2_with fail
      refine (rate1_any _ _ _ _ _).mono ?_
      rintro e w1 ⟨rfl, hB1⟩
      generalize Lib.compareBytes cl.p t = r at hcmp
      by_cases hr0 : r < 0
      · go_wp2_with fail
        go_roundw
        case rel => exact ⟨(i + j) / 2 + 1, j, by omega, hjn, by go_num, rfl, ext_trans HB.out hB1, fun m hm => rcmp_mono Ho.out (j := (i + j) / 2) (by omega) (by rw [← Hn.out]; omega) (by rw [hcmp.out]; exact hr0), HU⟩
        case measure => simp [intOf]; omega
      · go_wp2_with fail
        go_roundw
        case rel => exact ⟨i, (i + j) / 2, by omega, by omega, rfl, by go_num, ext_trans HB.out hB1, HL, fun m h1 h2 => Int.not_lt.1 (fun hm => absurd (show r < 0 by rw [← hcmp.out]; exact rcmp_mono Ho.out h1 (by rw [← Hn.out]; exact h2) hm) (by omega))⟩
        case measure => simp [intOf]; omega
    · obtain rfl : i = j := by omega
      by_cases hin : i < n
      · obtain ⟨b, off, rfl, hb, hc⟩ := Hr.out.at (by omega)
        obtain ⟨q0, q1, q2⟩ := hc i hin
        have c0 := (HB.out.cell (p := ⟨b, off + i * 3, none⟩) hb).trans q0
        have c1 := (HB.out.cell (p := ⟨b, off + i * 3 + 1, none⟩) hb).trans q1
        have c2 := (HB.out.cell (p := ⟨b, off + i * 3 + 2, none⟩) hb).trans q2
        have hcmp : Hid (rcmp cs t i = Lib.compareBytes (cs.getD i noRate).p t) := rfl
        have hin2 : (i : Int) < (n : Int) := by omega
        clear hc Hr q0 q1 q2
        generalize hcl : cs.getD i noRate = cl at c0 c1 c2 hcmp
        have Hcl := Lib.hid hcl
        clear hcl
        go_wp2_with fail
        refine (rate1_any _ _ _ _ _).mono ?_
        rintro e w1 ⟨rfl, hB1⟩
        generalize Lib.compareBytes cl.p t = r at hcmp
        by_cases hr0 : r = 0
        · subst hr0
          go_wp2_with fail
          go_ret2
          exact ⟨ext_trans HB.out hB1, Or.inl ⟨i, hin, rfl, findR_hit Ho.out (by rw [← Hn.out]; exact hin) hcmp.out⟩⟩
        · have hr1 : (r == 0) = false := by simpa using hr0
          go_wp2_with fail
          go_ret2
          exact ⟨ext_trans HB.out hB1, Or.inr ⟨_, rfl, findR_miss Ho.out (by rw [← Hn.out]; omega) HL.out (by rw [← Hn.out]; exact fun m h1 h2 => Int.not_lt.2 (HU.out m h1 h2)) (fun _ => by rw [hcmp.out]; exact hr0)⟩⟩
      · have hin2 : ¬ (i : Int) < (n : Int) := by omega
        go_wp2_with fail
        go_ret2
        exact ⟨HB.out, Or.inr ⟨_, rfl, findR_miss Ho.out (by rw [← Hn.out]; omega) HL.out (by rw [← Hn.out]; exact fun m h1 h2 => Int.not_lt.2 (HU.out m h1 h2)) (fun h => absurd h (by rw [← Hn.out]; omega))⟩⟩
def RFoundP (cs : List Rate) (t : List UInt8) (n : Nat) (i : Int) (f : Bool) : Prop := (f = true → ∃ m : Nat, m < n ∧ i = m ∧ findR cs t = some (cs.getD m noRate)) ∧ (f = false → findR cs t = none)
def RFound2 (cs : List Rate) (t : List UInt8) (n : Nat) (w : World) (e : Ending) (w' : World) : Prop :=
  ∃ (i : Int) (f : Bool), e = .returned (.tuple #[.int .i64 i, .bool f]) ∧ Below w.heap.size w w' ∧ RFoundP cs t n i f
theorem searchR_str (w : World) (a : Option Addr) (n cap : Nat) (cs : List Rate) (t : List UInt8) (s : ByteArray) (hs : s.data.toList = t) (hr : RateRow w a n cs) (ho : RSorted cs) :
    Calls Tryz.prog 92 #[.slice a n cap, .string s, .func (.func 93) #[] #[]] w (RFound2 cs t n w) := by
  have h := searchR_any w a n cap cs t hr ho
  have e : (⟨t.toArray⟩ : ByteArray) = s := by rw [← hs]
  rw [e] at h
  refine h.mono ?_
  rintro e w' ⟨hb, ⟨i, hi, rfl, hf⟩ | ⟨i, rfl, hf⟩⟩
  · exact ⟨_, _, rfl, hb, (fun _ => ⟨i, hi, rfl, hf⟩), (fun h => by cases h)⟩
  · exact ⟨_, _, rfl, hb, (fun h => by cases h), fun _ => hf⟩
theorem extractR_take (l : List UInt8) (k : Nat) : ((⟨l.toArray⟩ : ByteArray).extract 0 k).data.toList = l.take k := by
  simp [ByteArray.extract, ByteArray.copySlice]
/-- The rate of digits: that of the longest of their beginnings of at most k bytes. -/
def rateTo (cs : List Rate) (l : List UInt8) : Nat → Option Rate
  | 0 => findR cs (l.take 0)
  | k + 1 => (findR cs (l.take (k + 1))).or (rateTo cs l k)
def rateOf (cs : List Rate) (l : List UInt8) (m : Nat) : Option Rate := rateTo cs l (min l.length m)
def RatePost (o : Option Rate) (w : World) (e : Ending) (w' : World) : Prop :=
  Below w.heap.size w w' ∧ e = .returned (.tuple #[.agg #[.string ⟨(o.getD noRate).p.toArray⟩, .int .i64 (o.getD noRate).price, .bool (o.getD noRate).closed], .bool o.isSome])

set_option maxRecDepth 100000 in
set_option maxHeartbeats 4000000 in
theorem rate_any (w : World) (df ds dl dp : Int) (ra : Option Addr) (rn rc : Nat) (cs : List Rate) (l : List UInt8) (m : Nat) (hr : RateRow w ra rn cs) (ho : RSorted cs) (hl : l.length ≤ 1000) (hm : m ≤ 1000) :
    Calls Tryz.prog 51 #[.agg #[.int .i64 df, .int .i64 ds, .int .i64 dl, .int .i64 dp, .slice ra rn rc], .string ⟨l.toArray⟩, .int .i64 m] w (RatePost (rateOf cs l m) w) := by
  have Hr := Lib.hid hr
  have Ho := Lib.hid ho
  clear hr ho
  go_enter Tryz.func51, Tryz.ntmps51
  have HD0 : Hid (Blk ((w.alloc (.cells #[.int .i64 df, .int .i64 ds, .int .i64 dl, .int .i64 dp, .slice ra rn rc] 28)).alloc (.cells #[.string ⟨#[]⟩, .int .i64 0, .bool false] 51)) w.heap.size [.int .i64 df, .int .i64 ds, .int .i64 dl, .int .i64 dp, .slice ra rn rc] 28) := (Blk.new w [.int .i64 df, .int .i64 ds, .int .i64 dl, .int .i64 dp, .slice ra rn rc] 28).alloc _
  have HZ0 : Hid (Blk ((w.alloc (.cells #[.int .i64 df, .int .i64 ds, .int .i64 dl, .int .i64 dp, .slice ra rn rc] 28)).alloc (.cells #[.string ⟨#[]⟩, .int .i64 0, .bool false] 51)) (w.heap.size + 1) [.string ⟨#[]⟩, .int .i64 0, .bool false] 51) := by
    have := Blk.new (w.alloc (.cells #[.int .i64 df, .int .i64 ds, .int .i64 dl, .int .i64 dp, .slice ra rn rc] 28)) [.string ⟨#[]⟩, .int .i64 0, .bool false] 51
    show Blk _ _ _ _
    simpa using this
  have HB0 : Hid (Below w.heap.size w ((w.alloc (.cells #[.int .i64 df, .int .i64 ds, .int .i64 dl, .int .i64 dp, .slice ra rn rc] 28)).alloc (.cells #[.string ⟨#[]⟩, .int .i64 0, .bool false] 51))) := ext_alloc (ext_alloc (Below.refl _ _))
  go_wp2_with fail
  go_loopw [8] (fun s8 wr => ∃ k : Nat, k ≤ min l.length m + 1 ∧ s8 = .int .i64 ((k : Int) - 1) ∧ Hid (Blk wr w.heap.size [.int .i64 df, .int .i64 ds, .int .i64 dl, .int .i64 dp, .slice ra rn rc] 28) ∧ Hid (Blk wr (w.heap.size + 1) [.string ⟨#[]⟩, .int .i64 0, .bool false] 51) ∧ Hid (Below w.heap.size w wr) ∧ Hid (rateOf cs l m = match k with | 0 => none | q + 1 => rateTo cs l q)) (fun s8 _ => ((intOf s8) + 1).toNat)
  case atStart => exact ⟨min l.length m + 1, Nat.le_refl _, by congr 1; omega, HD0.out, HZ0.out, HB0.out, rfl⟩
  case round =>
    clear HD0 HZ0 HB0
    obtain ⟨k, hk, rfl, HD, HZ, HB, HC⟩ := hrel
    have d4 := HD.out.cell 4 rfl
    have z0 := HZ.out.cell 0 rfl
    have z1 := HZ.out.cell 1 rfl
    have z2 := HZ.out.cell 2 rfl
    have zf := HZ.out.fr
    cases k with
    | zero =>
      go_wp2_with fail
      refine bodyPost_ret (v := .tuple #[.agg #[.string ⟨#[]⟩, .int .i64 0, .bool false], .bool false]) (by simp [results, Tryz.results51, go_sem, z0, z1, z2]) rfl ⟨?_, ?_⟩
      · exact (by (try show Below _ _ _); repeat (with_reducible first | exact Below.refl _ _ | assumption | exact Hid.out (by assumption) | refine ext_alloc ?_ | refine ext_drewN ?_ | refine ext_drew ?_ | refine ext_setCell ?_ (Nat.le_refl _) | refine ext_setCell ?_ (Nat.le_succ _) | refine ext_trans ?_ (by assumption) | (refine ext_setCell ?_ (by simp)) | (refine ext_setCell ?_ (by simp at *; omega))))
      · rw [HC.out]; rfl
    | succ k =>
      have hk1 : ((k + 1 : Nat) : Int) - 1 = (k : Int) := by omega
      rw [hk1]
      clear hk1
      have kl : (k : Int) ≤ (l.length : Int) := by omega
      have kl2 : k ≤ l.length := by omega
      go_wp2_with fail
      go_region_with (go_at_call 92; refine (searchR_str _ ra rn rc cs (l.take k) _ (extractR_take l k) ?hx Ho.out).mono ?_; exact Hr.out.below (ext_drew HB.out); rintro e w1 ⟨i, f, rfl, hB1, hfp⟩)
      have hw1 : Below w.heap.size w w1 := ext_trans (ext_drew HB.out) hB1
      have HB1 := Lib.hid hw1
      have HX : Below wr.heap.size wr w1 := ext_trans (ext_drew (Below.refl _ _)) hB1
      have HD1 := Lib.hid (HD.out.below HX)
      have HZ1 := Lib.hid (HZ.out.below HX)
      clear HX HD HZ HB d4 z0 z1 z2 zf hB1
      cases f with
      | false =>
        have hnone := hfp.2 rfl
        clear hfp hw1
        go_wp2_with fail
        go_roundw
        case rel => exact ⟨k, by omega, rfl, HD1.out, HZ1.out, HB1.out, by
          show rateOf cs l m = _
          rw [HC.out]
          cases k with
          | zero => exact hnone
          | succ m => show (findR cs (l.take (m + 1))).or (rateTo cs l m) = _; rw [hnone]; rfl⟩
        case measure => simp [intOf]
      | true =>
        obtain ⟨q, hq, rfl, hsome⟩ := hfp.1 rfl
        have hrow := Hr.out.below hw1
        have hfin : Hid (rateOf cs l m = some (cs.getD q noRate)) := by
          show rateOf cs l m = _
          rw [HC.out]
          cases k with
          | zero => exact hsome
          | succ q => show (findR cs (l.take (q + 1))).or (rateTo cs l q) = _; rw [hsome]; rfl
        clear hsome hfp
        obtain ⟨b, off, rfl, hb, hc⟩ := hrow.at (by omega)
        obtain ⟨c0, c1, c2⟩ := hc q hq
        clear hc hrow hw1
        have d4 := HD1.out.cell 4 rfl
        have z0 := HZ1.out.cell 0 rfl
        have z1 := HZ1.out.cell 1 rfl
        have z2 := HZ1.out.cell 2 rfl
        have zf := HZ1.out.fr
        generalize cs.getD q noRate = cl at c0 c1 c2 hfin
        go_wp2_with fail
        refine bodyPost_ret (v := .tuple #[.agg #[.string ⟨cl.p.toArray⟩, .int .i64 cl.price, .bool cl.closed], .bool true]) (by simp [results, Tryz.results51, go_sem, z0, z1, z2]) rfl ⟨?_, ?_⟩
        · have HB1 := HB1.out; exact (by (try show Below _ _ _); repeat (with_reducible first | exact Below.refl _ _ | assumption | exact Hid.out (by assumption) | refine ext_alloc ?_ | refine ext_drewN ?_ | refine ext_drew ?_ | refine ext_setCell ?_ (Nat.le_refl _) | refine ext_setCell ?_ (Nat.le_succ _) | refine ext_trans ?_ (by assumption) | (refine ext_setCell ?_ (by simp)) | (refine ext_setCell ?_ (by simp at *; omega))))
        · rw [hfin.out]; rfl
end Go.Proofs.YtacekbbndamkmaaGreatDoor
