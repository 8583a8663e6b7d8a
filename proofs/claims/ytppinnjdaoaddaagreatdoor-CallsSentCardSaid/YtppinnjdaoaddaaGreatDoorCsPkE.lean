/- What is proved here: lemmas and contracts for the statement, put together out of smaller texts (RegionPre, GenPick). No condition beyond those stated. -/
import Derived.Test.YtppinnjdaoaddaaGreatDoorCsPkD
import Derived.Test.YtppinnjdaoaddaaGreatDoorCsPkA
import Derived.Test.YtppinnjdaoaddaaGreatDoorCsPkB
set_option linter.unusedVariables false
set_option linter.unusedSimpArgs false
namespace Go.Proofs.YtppinnjdaoaddaaGreatDoor
open Go.RowKit

section
variable {P : Program} {ops : Array Oper} {Q : Exit → Act → World → Prop} {m : Nat} {st : Oper}

/-- Operation m waits, through others, for all ahead of it but those in pre; no guards; edges go down. -/
def preChk (ops : Array Oper) (m : Nat) (pre : List Nat) : Bool :=
  ((List.range m).all fun i => pre.contains i || (List.range (m + 1)).any fun k => decide (i < k) && ((ops[k]?).map fun o => o.after.any fun e => Region.binds .any e && e.on == i).getD false) &&
  ((List.range (m + 1)).all fun i => ((ops[i]?).map fun o => o.guard.isNone && o.after.all fun e => !(Region.binds .any e) || decide (e.on < i)).getD false)
theorem pchk1 {pre : List Nat} (hc : preChk ops m pre = true) (i : Nat) (hi : i < m) (hp : i ∉ pre) : ∃ k o, i < k ∧ k ≤ m ∧ ops[k]? = some o ∧ ∃ e ∈ o.after, Region.binds .any e = true ∧ e.on = i := by
  simp only [preChk, Bool.and_eq_true, List.all_eq_true, List.any_eq_true, List.mem_range, decide_eq_true_eq, Bool.or_eq_true] at hc
  obtain ⟨k, hk, hik, hk2⟩ := (hc.1 i hi).resolve_left (by simpa using hp)
  cases ho : ops[k]? with
  | none => simp [ho] at hk2
  | some o =>
    simp only [ho, Option.map_some, Option.getD_some] at hk2
    obtain ⟨e, he, hb⟩ := Array.any_eq_true'.1 hk2
    simp only [Bool.and_eq_true, beq_iff_eq] at hb
    exact ⟨k, o, hik, by omega, ho, e, he, hb.1, hb.2⟩
theorem pchk0 {pre : List Nat} (hc : preChk ops m pre = true) (i : Nat) (hi : i ≤ m) : ∃ o, ops[i]? = some o ∧ o.guard = none ∧ ∀ e ∈ o.after, Region.binds .any e = true → e.on < i := by
  simp only [preChk, Bool.and_eq_true, List.all_eq_true, List.mem_range] at hc
  have h := hc.2 i (by omega)
  cases ho : ops[i]? with
  | none => simp [ho] at h
  | some o =>
    simp only [ho, Option.map_some, Option.getD_some, Bool.and_eq_true, Option.isNone_iff_eq_none] at h
    refine ⟨o, rfl, h.1, fun e he hb => ?_⟩
    have h1 := Array.all_eq_true_iff_forall_mem.1 h.2 e he
    simpa [hb] using h1
theorem pchk2 {pre : List Nat} (hc : preChk ops m pre = true) (i : Nat) (hi : i ≤ m) : ∃ o, ops[i]? = some o ∧ ∀ e ∈ o.after, Region.binds .any e = true → e.on < i := by
  obtain ⟨o, h1, _, h2⟩ := pchk0 hc i hi
  exact ⟨o, h1, h2⟩
theorem pchk3 {pre : List Nat} (hc : preChk ops m pre = true) (i : Nat) (hi : i ≤ m) (o : Oper) (ho : ops[i]? = some o) : o.guard = none := by
  obtain ⟨o', h1, h2, _⟩ := pchk0 hc i hi
  rw [ho] at h1; cases h1; exact h2
/-- If the last may come up, all others are listed. -/
theorem all_listedP {pre : List Nat} (hc : preChk ops m pre = true) {l : Array Bool} (hl : l.size = m + 1) (hcl : ClosedL ops l) (hp : ∀ i ∈ pre, l.getD i false = true) (hr : m ∈ Region.ready .any ops l) : ∀ i, i < m → l.getD i true = true := by
  obtain ⟨_, om, hom, hall⟩ := mem_ready.1 hr
  have main : ∀ d i, i < m → m - i ≤ d → l.getD i false = true := by
    intro d
    induction d with
    | zero => intro i hi h; omega
    | succ d ih =>
      intro i hi h
      by_cases hip : i ∈ pre
      · exact hp i hip
      obtain ⟨k, o, hik, hkm, ho, e, he, hb, hon⟩ := pchk1 hc i hi hip
      rcases Nat.lt_or_ge k m with hk | hk
      · rw [← hon]; exact hcl k o ho (ih k hk (by omega)) e he hb
      · obtain rfl : k = m := by omega
        rw [hom] at ho; cases ho
        rw [← hon]; exact hall e he hb
  intro i hi
  rw [getD_two (by omega) true false]
  exact main (m - i) i hi (Nat.le_refl _)

/-- If none of the others may come up, all are listed. -/
theorem listed_of_noneP {pre : List Nat} (hc : preChk ops m pre = true) {l : Array Bool} (hl : l.size = m + 1) (hn : ∀ i, i < m → i ∉ Region.ready .any ops l) : ∀ i, i < m → l.getD i true = true := by
  intro i
  induction i using Nat.strongRecOn with
  | _ i ih =>
    intro hi
    rcases Bool.eq_false_or_eq_true (l.getD i true) with h | h
    · exact h
    · refine absurd (mem_ready.2 ⟨h, ?_⟩) (hn i hi)
      obtain ⟨o, ho, hd⟩ := pchk2 hc i (by omega)
      refine ⟨o, ho, fun e he hb => ?_⟩
      have := hd e he hb
      rw [getD_two (by omega) false true]
      exact ih e.on this (by omega)

theorem wpOp_lastP {pre : List Nat} {ops' : Array Oper} (hc : preChk ops m pre = true) (hsame : ∀ i, i < m → ops'[i]? = ops[i]?) {i : Nat} (hi : i < m) {K K' : Act → World → Prop} (hK : ∀ a w, K a w → K' a w) {a : Act} {w : World} (h : wpOp P ops' (lastQ P st Q) i K a w) : wpOp P ops Q i K' a w := by
  unfold wpOp at *
  rw [hsame i hi] at h
  cases ho : ops[i]? with
  | none => simp only [ho] at h ⊢; exact hK _ _ h
  | some o =>
    simp only [ho] at h ⊢
    have hw : Region.wanted o (yielded ops' a.tmps) = Region.wanted o (yielded ops a.tmps) := by
      unfold Region.wanted
      cases hgd : o.guard with
      | none => rfl
      | some gb =>
        obtain ⟨g, b⟩ := gb
        rw [pchk3 hc i (Nat.le_of_lt hi) o ho] at hgd; cases hgd
    rw [hw] at h
    split
    · rename_i hwt
      simp only [hwt, if_true] at h
      rcases h with h | ⟨h1, a1, w1, h2⟩
      · exact Or.inl (upon_last hK _ h)
      · exact Or.inr ⟨h1, a1, w1, h2⟩
    · rename_i hwt
      simp only [hwt] at h
      exact hK _ _ h

theorem last_anyP {pre : List Nat} {ops' : Array Oper} (hsz : ops.size = m + 1) (hst : ops[m]? = some st) (hg : st.guard = none) (hc : preChk ops m pre = true) (hsz' : ops'.size = m) (hsame : ∀ i, i < m → ops'[i]? = ops[i]?) :
    ∀ (fuel : Nat) (l l' : Array Bool) (a : Act) (w : World), l.size = m + 1 → l'.size = m → (∀ i, i < m → l'.getD i true = l.getD i true) → l.getD m true = false → ClosedL ops l → (∀ i ∈ pre, l.getD i false = true) →
      wpAny P .any ops' (lastQ P st Q) fuel l' a w → wpAny P .any ops Q (fuel + 1) l a w := by
  have rdy : ∀ {l l' : Array Bool} {i : Nat}, l.size = m + 1 → l'.size = m → (∀ i, i < m → l'.getD i true = l.getD i true) → i < m → (i ∈ Region.ready .any ops l ↔ i ∈ Region.ready .any ops' l') := by
    intro l l' i hl hl' he hi
    rw [mem_ready, mem_ready, hsame i hi, he i hi]
    obtain ⟨o, ho, hd⟩ := pchk2 hc i (by omega)
    have key : ∀ e ∈ o.after, Region.binds .any e = true → l'.getD e.on false = l.getD e.on false := fun e hem hb => by
      have := hd e hem hb
      rw [getD_two (by omega) false true, he e.on (by omega), getD_two (l := l) (by omega) false true]
    constructor
    · rintro ⟨h0, o', ho', hall⟩
      rw [ho] at ho'; cases ho'
      exact ⟨h0, o, ho, fun e hem hb => by rw [key e hem hb]; exact hall e hem hb⟩
    · rintro ⟨h0, o', ho', hall⟩
      rw [ho] at ho'; cases ho'
      exact ⟨h0, o, ho, fun e hem hb => by rw [← key e hem hb]; exact hall e hem hb⟩
  have rlt : ∀ {l' : Array Bool} {i : Nat}, i ∈ Region.ready .any ops' l' → i < m := fun hi => by
    obtain ⟨_, o, ho, _⟩ := mem_ready.1 hi
    have := (Array.getElem?_eq_some_iff.1 ho).1
    omega
  have mrdy : ∀ {l : Array Bool}, l.size = m + 1 → l.getD m true = false → (∀ i, i < m → l.getD i true = true) → m ∈ Region.ready .any ops l := fun {l} hl hm h => by
    obtain ⟨o, ho, hd⟩ := pchk2 hc m (Nat.le_refl _)
    exact mem_ready.2 ⟨hm, o, ho, fun e he hb => by have := hd e he hb; rw [getD_two (by omega) false true]; exact h _ this⟩
  have ile : ∀ {l : Array Bool} {i : Nat}, i ∈ Region.ready .any ops l → i ≤ m := fun hi => by
    obtain ⟨_, o, ho, _⟩ := mem_ready.1 hi
    have := (Array.getElem?_eq_some_iff.1 ho).1
    omega
  have nonempty : ∀ {l l' : Array Bool}, l.size = m + 1 → l'.size = m → (∀ i, i < m → l'.getD i true = l.getD i true) → l.getD m true = false → Region.ready .any ops l ≠ [] := by
    intro l l' hl hl' he hm h0
    have h1 := listed_of_noneP hc hl (fun i hi hr => by rw [h0] at hr; cases hr)
    have := mrdy hl hm h1
    rw [h0] at this; cases this
  intro fuel
  induction fuel with
  | zero =>
    intro l l' a w hl hl' he hm hcl hp H
    refine ⟨fun h0 => absurd h0 (nonempty hl hl' he hm), fun i hi => ?_⟩
    by_cases him : i = m
    · subst him
      exact last_step hsz hst hg hl (all_listedP hc hl hcl hp hi) H.2 0
    · have := (rdy hl hl' he (by have := ile hi; omega)).1 hi
      rw [H.1] at this; cases this
  | succ fuel ih =>
    intro l l' a w hl hl' he hm hcl hp H
    refine ⟨fun h0 => absurd h0 (nonempty hl hl' he hm), fun i hi => ?_⟩
    by_cases him : i = m
    · subst him
      have hall := all_listedP hc hl hcl hp hi
      refine last_step hsz hst hg hl hall (H.1 ?_) (fuel + 1)
      refine List.eq_nil_iff_forall_not_mem.2 fun j hj => ?_
      have hjm := rlt hj
      have h0 := (mem_ready.1 hj).1
      rw [he j hjm, hall j hjm] at h0; cases h0
    · have hilt : i < m := by have := ile hi; omega
      refine wpOp_lastP hc hsame hilt (fun a' w' h' => ?_) (H.2 i ((rdy hl hl' he hilt).1 hi))
      refine ih _ _ a' w' (by simpa using hl) (by simpa using hl') (fun j hj => ?_) ?_ (hcl.set hi) (fun j hj => getD_set_true (hp j hj)) h'
      · by_cases hji : j = i
        · subst hji; simp [hl, hl', hj, Nat.lt_succ_of_lt hj]
        · rw [getD_set_ne true (Ne.symm hji), getD_set_ne true (Ne.symm hji)]; exact he j hj
      · rw [getD_set_ne true him]; exact hm

/-- The tail, where those in pre have come up. -/
def tailChkP (ops : Array Oper) (m : Nat) (pre : List Nat) : Bool := (List.range ops.size).all fun k => decide (k < m) || preChk (ops.extract 0 (k + 1)) k pre
theorem tail_anyP (m : Nat) (pre : List Nat) (hc : tailChkP ops m pre = true) (l : Array Bool) (hl : l.size = ops.size) (hlm : ∀ k, m ≤ k → k < ops.size → l.getD k true = false) (hp : ∀ i ∈ pre, i < m ∧ l.getD i false = true) (hcl : ClosedL ops l) : ∀ (d k fuel : Nat), k + d = ops.size → m ≤ k → ∀ (a : Act) (w : World), wpAny P .any (ops.extract 0 k) (tailQ P ops Q k) fuel (l.extract 0 k) a w → wpAny P .any ops Q (fuel + d) l a w := by
  have gx : ∀ (k i : Nat) (b : Bool), i < k → k ≤ ops.size → (l.extract 0 k).getD i b = l.getD i b := by
    intro k i b hi hk
    simp only [Array.getD_eq_getD_getElem?, Array.getElem?_extract, Nat.zero_add, Nat.sub_zero]
    rw [if_pos (by omega)]
  intro d
  induction d with
  | zero =>
    intro k fuel hk hm a w h
    obtain rfl : k = ops.size := by omega
    rw [show ops.extract 0 ops.size = ops by simp, show l.extract 0 ops.size = l by rw [← hl]; simp] at h
    refine wpAny_monoQ (fun a w h => ?_) (fun e a w hn h => by rw [tailQ_other hn] at h; exact h) _ _ a w h
    have h' : tailQ.wpTail P Q (ops.toList.drop ops.size) a w := h
    rw [List.drop_of_length_le (by simp)] at h'
    exact h'
  | succ d ih =>
    intro k fuel hk hm a w h
    rw [show fuel + (d + 1) = (fuel + 1) + d by omega]
    refine ih (k + 1) (fuel + 1) (by omega) (by omega) a w ?_
    have hc' := List.all_eq_true.1 hc k (by simp; omega)
    simp only [Bool.or_eq_true, decide_eq_true_eq] at hc'
    have hcl' := hc'.resolve_left (by omega)
    have hlt : k < ops.size := by omega
    have ho : ops[k]? = some ops[k] := by simp [hlt]
    have hgn : ops[k].guard = none := pchk3 hcl' k (Nat.le_refl _) _ (by rw [ext_get _ _ _ (Nat.lt_succ_self k)]; exact ho)
    refine last_anyP (m := k) (st := ops[k]) (ops := ops.extract 0 (k + 1)) (ops' := ops.extract 0 k) (by simp; omega) (by rw [ext_get _ _ _ (Nat.lt_succ_self k)]; exact ho) hgn hcl' (by simp; omega) (fun i hi => by rw [ext_get _ _ _ hi, ext_get _ _ _ (Nat.lt_succ_of_lt hi)]) fuel (l.extract 0 (k + 1)) (l.extract 0 k) a w (by simp; omega) (by simp; omega) (fun i hi => by rw [gx k i true hi (by omega), gx (k + 1) i true (by omega) (by omega)]) (by rw [gx (k + 1) k true (by omega) (by omega)]; exact hlm k hm hlt) ?_ (fun i hi => by rw [gx (k + 1) i false (by have := (hp i hi).1; omega) (by omega)]; exact (hp i hi).2) ?_
    · intro i o hoi hli e he hb
      by_cases h' : i < k + 1
      · rw [ext_get _ _ _ h'] at hoi
        rw [gx (k + 1) i false h' (by omega)] at hli
        have h9 := hcl i o hoi hli e he hb
        obtain ⟨o', h1, h2⟩ := pchk2 hcl' i (by omega)
        rw [ext_get _ _ _ h', hoi] at h1; cases h1
        have := h2 e he hb
        rw [gx (k + 1) e.on false (by omega) (by omega)]; exact h9
      · rw [ext_get_no _ _ _ h'] at hoi; cases hoi
    · refine wpAny_monoQ (fun a w h => ?_) (fun e a w hn h => ?_) _ _ a w h
      · have h' : tailQ.wpTail P Q (ops.toList.drop k) a w := h
        rw [List.drop_eq_getElem_cons (by simpa using hlt)] at h'
        have h2 : ops[k].wp P a w (tailQ.wpTail P Q (ops.toList.drop (k + 1))) Q ∨ (ops[k].asks P a w ∧ LetsOut Q) := by simpa [tailQ.wpTail] using h'
        show Oper.wp P ops[k] a w (fun a' w' => tailQ P ops Q (k + 1) .normal a' w') (tailQ P ops Q (k + 1)) ∨ (ops[k].asks P a w ∧ LetsOut (tailQ P ops Q (k + 1)))
        refine h2.imp (fun h2 => ?_) (fun h2 => h2)
        unfold Oper.wp at *
        generalize (execOp a.eval ops[k]).run P w = r at *
        cases r with
        | ok n w' =>
          cases n <;> simp only [Oper.upon] at h2 ⊢ <;>
            first
              | exact h2
              | exact Calls.mono h2 (fun e w'' he => by cases e <;> exact he)
              | exact Rows.mono h2 (fun _ _ he => he)
        | halt x w' => cases x <;> simp only [Oper.upon] at h2 ⊢ <;> exact h2
      · rw [tailQ_other hn] at h
        show lastQ P ops[k] (tailQ P ops Q (k + 1)) e a w
        cases e <;> first | exact absurd rfl hn | exact h
theorem gen_pre {W : Nat} {pre : List Nat} {a0 : Act} {S k : Nat} {w0 : World} {specs : List Spec} {calls : List Nat} (hsz : ops.size = m + 1) (hc : genChk ops a0.tmps.size m calls = true) (hlen : specs.length = m) (hst : ops[m]? = some st) (hsg : st.guard = none) (hpre : preChk ops m pre = true)
    (hstep : ∀ i o s, i < m → ops[i]? = some o → specs[i]? = some s → LateOp P ops Q a0 S k W w0 specs calls i o s)
    (hA : ∀ (vals : Nat → Value) (w : World), Keeps S w0 w → StreamOk w S (k + W * calls.length) → (∀ (i : Nat) (s : Spec), specs[i]? = some s → s.holds S w (vals i)) → lastQ P st Q .normal (putSome ops vals (fun _ => true) (List.range m) a0) w) :
    ∀ (fuel : Nat) (l : Array Bool) (vals : Nat → Value) (w : World), l.size = m + 1 → l.getD m true = false → ClosedL ops l → (∀ i ∈ pre, l.getD i false = true) → Keeps S w0 w → StreamOk w S (k + W * calls.countP (fun i => l.getD i true)) → (∀ (i : Nat) (s : Spec), l.getD i true = true → specs[i]? = some s → s.holds S w (vals i)) → (l.toList.countP (fun b => !b) ≤ fuel) →
      wpAny P .any ops Q fuel l (putSome ops vals (fun i => l.getD i true) (List.range m) a0) w := by
  simp only [genChk, Bool.and_eq_true, List.all_eq_true, List.mem_range, decide_eq_true_eq, Bool.or_eq_true, beq_iff_eq] at hc
  obtain ⟨⟨⟨⟨⟨hdst, hgd⟩, hmn⟩, h1n⟩, hnd⟩, hcm⟩ := hc
  have hdown : ∀ i, i < m + 1 → ∃ o, ops[i]? = some o ∧ ∀ e ∈ o.after, Region.binds .any e = true → e.on < i := fun i hi => pchk2 hpre i (by omega)
  have dlt' : ∀ i t, dstOf ops i = some t → i < ops.size := by
    intro i t h
    rcases Nat.lt_or_ge i ops.size with h' | h'
    · exact h'
    · unfold dstOf at h; rw [Array.getElem?_eq_none h'] at h; cases h
  have dne : ∀ i j, i ≠ j → ∀ t, dstOf ops j = some t → dstOf ops i ≠ some t := by
    intro i j hij t hj hi
    have := (hdst i (dlt' i t hi) j (dlt' j t hj)).resolve_left hij
    simp [hi, hj] at this
  have dlt : ∀ i t, dstOf ops i = some t → t < a0.tmps.size := by
    intro i t hi
    have hj : ∃ j, j < ops.size ∧ i ≠ j := if h : i = 0 then ⟨1, by omega, by omega⟩ else ⟨0, by omega, h⟩
    obtain ⟨j, hj, hij⟩ := hj
    have := (hdst i (dlt' i t hi) j hj).resolve_left hij
    simp [hi] at this
    exact this.1
  have cntAll : ∀ l : Array Bool, (∀ i, i < m → l.getD i true = true) → calls.countP (fun i => l.getD i true) = calls.length := fun l h => List.countP_eq_length.2 (fun i hi => h i (by simpa using hcm i hi))
  intro fuel
  induction fuel with
  | zero =>
    intro l vals w hl hlm hcl hp hk hstm hs hf
    exfalso
    have : 0 < l.toList.countP (fun b => !b) := List.countP_pos_iff.2 ⟨false, by
      have hlt : m < l.size := by omega
      have : l[m] = false := by simpa [hlt] using hlm
      rw [← this]; simp, rfl⟩
    omega
  | succ fuel ih =>
    intro l vals w hl hlm hcl hp hk hstm hs hf
    have cntSet : ∀ i, i < l.size → l.getD i true = false → (l.setIfInBounds i true).toList.countP (fun b => !b) + 1 = l.toList.countP (fun b => !b) := by
      intro i hilt hun
      have hli : l[i] = false := by simpa [hilt] using hun
      have hpos : 0 < l.toList.countP (fun b => !b) := List.countP_pos_iff.2 ⟨false, by rw [← hli]; simp, rfl⟩
      have := List.countP_set (p := fun b : Bool => !b) (l := l.toList) (i := i) (a := true) (by simpa using hilt)
      have e4 : l.toList[i]'(by simpa using hilt) = false := by simpa using hli
      rw [Array.toList_setIfInBounds, this, e4]
      rw [if_pos (by decide : (!false) = true), if_neg (by decide : ¬ (!true) = true)]
      omega
    refine ⟨fun h0 => ?_, fun i hi => ?_⟩
    · exfalso
      have hall : ∀ i, i < m + 1 → l.getD i true = true := by
        intro i
        induction i using Nat.strongRecOn with
        | _ i ihi =>
          intro hi
          rcases Bool.eq_false_or_eq_true (l.getD i true) with h | h
          · exact h
          · exfalso
            obtain ⟨o, ho, hd⟩ := hdown i hi
            have : i ∈ Region.ready .any ops l := mem_ready.2 ⟨h, o, ho, fun e he hb => by rw [getD_two (by have := hd e he hb; omega) false true]; exact ihi e.on (hd e he hb) (by have := hd e he hb; omega)⟩
            rw [h0] at this; cases this
      rw [hall m (by omega)] at hlm; cases hlm
    · obtain ⟨hun, o, ho, hall⟩ := mem_ready.1 hi
      have hile : i ≤ m := by have := (Array.getElem?_eq_some_iff.1 ho).1; omega
      by_cases him : i = m
      · subst him
        rw [hst] at ho; cases ho
        have hothers := all_listedP hpre hl hcl hp hi
        unfold wpOp
        simp only [hst]
        rw [if_pos (by simp [Region.wanted, hsg])]
        rw [cntAll l hothers] at hstm
        have e1 : putSome ops vals (fun j => l.getD j true) (List.range i) a0 = putSome ops vals (fun _ => true) (List.range i) a0 := putSome_congr _ _ (fun j hj => ⟨hothers j (List.mem_range.1 hj), fun _ => rfl⟩)
        rw [e1]
        refine (hA vals w hk hstm (fun j s h => hs j s (hothers j (by have := (List.getElem?_eq_some_iff.1 h).1; omega)) h)).imp (Oper.wp_mono (fun a' w' h' => wpAny_done (ready_all hsz fun j hj => ?_) h' fuel)) id
        by_cases hji : j = i
        · subst hji; simp [hl]
        · rw [getD_set_ne true (Ne.symm hji)]; exact hothers j (by omega)
      · have him' : i < m := by omega
        have hilt : i < l.size := by omega
        obtain ⟨s, hsi⟩ : ∃ s, specs[i]? = some s := ⟨specs[i]'(by omega), by simp⟩
        have hguard : o.guard = none := by
          have hx := hgd i him'
          simpa [ho] using hx
        have hdo : dstOf ops i = o.dst := by simp [dstOf, ho]
        unfold wpOp
        simp only [ho]
        rw [if_pos (by simp [Region.wanted, hguard])]
        refine Or.inl ?_
        have hcnt := countP_set calls hnd (fun j => l.getD j true) i hun
        refine hstep i o s him' ho hsi _ w (calls.countP fun j => l.getD j true) hk hstm ?_ ?_ ?_ _ ?_
        · rw [← hcnt]; exact List.countP_le_length
        · intro t ht
          refine putSome_eval_other _ _ (fun j hj => ?_)
          intro hjt
          have hjm := List.mem_range.1 hj
          unfold dstOf at hjt
          cases hoj : ops[j]? with
          | none => rw [hoj] at hjt; cases hjt
          | some oj =>
            rw [hoj] at hjt
            have h9 : (ops.extract 0 specs.length)[j]? = some oj := by rw [ext_get _ _ _ (by omega)]; exact hoj
            have := Array.all_eq_true_iff_forall_mem.1 ht oj (Array.mem_of_getElem? h9)
            simp at this hjt
            exact this hjt
        · intro j t s' hj ht hs'
          obtain ⟨e, he, hb⟩ := Array.any_eq_true'.1 hj
          simp only [Bool.and_eq_true, beq_iff_eq] at hb
          obtain ⟨hb, rfl⟩ := hb
          have hlt : e.on < m := by have := (List.getElem?_eq_some_iff.1 hs').1; omega
          have hon' : l.getD e.on true = true := by rw [getD_two (by omega) true false]; exact hall e he hb
          rw [putSome_eval (i := e.on) _ _ List.nodup_range (List.mem_range.2 hlt) hon' ht (dlt _ _ ht) (fun j _ hj => fun h2 => dne e.on j (Ne.symm hj) t h2 ht)]
          exact hs e.on s' hon' hs'
        · intro v w' hv hkw hst'
          have e2 := putSome_set (ops := ops) (vals := vals) (listed := fun j => l.getD j true) (i := i) v (List.range m) a0 List.nodup_range (List.mem_range.2 him') hun (fun j _ hj t ht => dne i j (Ne.symm hj) t ht)
          have e3 : (fun j => if j = i then true else l.getD j true) = fun j => (l.setIfInBounds i true).getD j true := by
            funext j
            by_cases hji : j = i
            · subst hji; simp [hilt]
            · simp only [hji, if_false]; rw [getD_set_ne true (Ne.symm hji)]
          rw [← hdo, ← e2, e3]
          refine ih _ _ w' (by simpa using hl) (by rw [getD_set_ne true him]; exact hlm) (hcl.set hi) (fun j hj => getD_set_true (hp j hj)) (hk.trans hkw) ?_ ?_ ?_
          · rw [← e3, hcnt]; exact hst'
          · intro j s' hj hs'
            by_cases hji : j = i
            · subst hji
              rw [hsi] at hs'; cases hs'
              simp only [if_true]; exact hv
            · simp only [hji, if_false]
              rw [getD_set_ne true (Ne.symm hji)] at hj
              exact (hs j s' hj hs').keeps hkw
          · have := cntSet i hilt hun
            omega

theorem held_of_any : ∀ (fuel : Nat) (l : Array Bool) (a : Act) (w : World), wpAny P .any ops Q fuel l a w → wpAnyH P .any ops Q (fun _ => True) fuel l a w
  | 0, _, _, _, h => h
  | fuel + 1, _, _, _, h => ⟨h.1, fun i hi => wpOp_mono (fun a' w' h' => ⟨trivial, held_of_any fuel _ a' w' h'⟩) (h.2 i hi)⟩
/-- The array in which those of pre have come up. -/
def preArr (n : Nat) (pre : List Nat) : Array Bool := pre.foldl (fun l i => l.setIfInBounds i true) (Array.replicate n false)
/-- Those of pre may be taken first, one behind the other. -/
def preFree (ops : Array Oper) : List Nat → Array Bool → Bool
  | [], _ => true
  | i :: r, l => (ops[i]?).isSome && Region.free .any ops l i && (Region.ready .any ops l).contains i && preFree ops r (l.setIfInBounds i true)
def preYields (P : Program) (ops : Array Oper) (Q : Exit → Act → World → Prop) : List (Nat × Oper × Value) → Act → Prop
  | [], _ => True
  | (i, o, v) :: r, a => ops[i]? = some o ∧ YieldsIf P ops (fun _ => True) o v a ∧ (∀ c a w, Q (.panic c) (a.put o.dst v) w → Q (.panic c) a w) ∧ preYields P ops Q r (a.put o.dst v)
theorem pre_taken (hs : Region.noSelect ops = true) : ∀ (pv : List (Nat × Oper × Value)) (l : Array Bool) (fuel : Nat) (a : Act) (w : World), preFree ops (pv.map (·.1)) l = true → preYields P ops Q pv a →
    wpAnyH P .any ops Q (fun _ => True) fuel ((pv.map (·.1)).foldl (fun l i => l.setIfInBounds i true) l) (pv.foldl (fun a x => a.put x.2.1.dst x.2.2) a) w → wpAnyH P .any ops Q (fun _ => True) (fuel + pv.length) l a w
  | [], l, fuel, a, w, _, _, h => h
  | (i, o, v) :: r, l, fuel, a, w, hf, hy, h => by
    simp only [List.map_cons, preFree, Bool.and_eq_true] at hf
    obtain ⟨ho, hyi, hq, hr⟩ := hy
    exact wpAnyH_take ho hs hf.1.1.2 hf.1.2 hq hyi trivial (pre_taken hs r _ fuel _ w hf.2 hr h)

/-- Each of the operations behind m waits for the one ahead of it. -/
def chainChk (L : List Oper) (m : Nat) : Bool := (L.drop (m + 1)).zipIdx.all fun x => x.1.guard.isNone && (x.1.after.toList.any fun e => Region.binds .any e && e.on == m + x.2) && x.1.after.toList.all fun e => !(Region.binds .any e) || decide (e.on < m + 1 + x.2)
/-- The same check as preChk, on a list. -/
def preChkL (L : List Oper) (m : Nat) (pre : List Nat) : Bool :=
  ((List.range m).all fun i => pre.contains i || ((L.take (m + 1)).drop (i + 1)).any fun o => o.after.toList.any fun e => Region.binds .any e && e.on == i) &&
  ((L.take (m + 1)).zipIdx.all fun x => x.1.guard.isNone && x.1.after.toList.all fun e => !(Region.binds .any e) || decide (e.on < x.2)) && decide (m < L.length)
theorem preChk_of_list {L : List Oper} {m : Nat} {pre : List Nat} (h : preChkL L m pre = true) : preChk (L.toArray.extract 0 (m + 1)) m pre = true := by
  simp only [preChkL, Bool.and_eq_true, List.all_eq_true, List.mem_range, Bool.or_eq_true, List.any_eq_true, decide_eq_true_eq] at h
  obtain ⟨⟨h1, h2⟩, hlt⟩ := h
  have gt : ∀ i, i < m + 1 → ∃ o, L[i]? = some o ∧ (L.toArray.extract 0 (m + 1))[i]? = some o := fun i hi => by
    have : i < L.length := by omega
    exact ⟨L[i], by simp [this], by rw [ext_get _ _ _ hi]; simp [this]⟩
  simp only [preChk, Bool.and_eq_true, List.all_eq_true, List.mem_range, Bool.or_eq_true, List.any_eq_true, decide_eq_true_eq]
  refine ⟨fun i hi => (h1 i hi).imp id ?_, fun i hi => ?_⟩
  · rintro ⟨o, ho, e, he, hb⟩
    obtain ⟨j, hj⟩ := List.getElem?_of_mem ho
    rw [List.getElem?_drop, List.getElem?_take] at hj
    split at hj
    · rename_i hlt2
      refine ⟨i + 1 + j, by omega, by omega, ?_⟩
      rw [ext_get _ _ _ (by omega)]
      rw [show L.toArray[i + 1 + j]? = some o by simpa using hj]
      simp only [Option.map_some, Option.getD_some]
      exact Array.any_eq_true'.2 ⟨e, by simpa using he, by simpa using hb⟩
    · cases hj
  · obtain ⟨o, ho, ho2⟩ := gt i hi
    rw [ho2]
    simp only [Option.map_some, Option.getD_some, Bool.and_eq_true]
    have h3 := h2 (o, i) (by
      rw [List.mk_mem_zipIdx_iff_getElem?, List.getElem?_take, if_pos hi]; exact ho)
    exact ⟨h3.1, Array.all_eq_true_iff_forall_mem.2 (fun e he => by have := h3.2 e (by simpa using he); simpa using this)⟩
theorem tail_of_chain {L : List Oper} {m : Nat} {pre : List Nat} (h : preChkL L m pre = true) (hc : chainChk L m = true) : tailChkP L.toArray m pre = true := by
  have main : ∀ d, m + d < L.length → preChkL L (m + d) pre = true := by
    intro d
    induction d with
    | zero => intro _; exact h
    | succ d ih =>
      intro hd
      have hi := ih (by omega)
      simp only [preChkL, Bool.and_eq_true, List.all_eq_true, List.mem_range, Bool.or_eq_true, List.any_eq_true, decide_eq_true_eq] at hi ⊢
      obtain ⟨⟨h1, h2⟩, h3⟩ := hi
      have hk : L[m + 1 + d]? = some (L[m + 1 + d]'(by omega)) := by simp [show m + 1 + d < L.length by omega]
      simp only [chainChk, Bool.and_eq_true, List.all_eq_true, List.any_eq_true] at hc
      have hx := hc (L[m + 1 + d]'(by omega), d) (by rw [List.mk_mem_zipIdx_iff_getElem?, List.getElem?_drop]; exact hk)
      obtain ⟨⟨hg, ⟨e, he, hb⟩⟩, hdn⟩ := hx
      refine ⟨⟨fun i hlt => ?_, fun x hx2 => ?_⟩, by omega⟩
      · by_cases hid : i < m + d
        · refine (h1 i hid).imp id ?_
          rintro ⟨o, ho, hr⟩
          refine ⟨o, ?_, hr⟩
          obtain ⟨j, hj⟩ := List.getElem?_of_mem ho
          rw [List.getElem?_drop, List.getElem?_take] at hj
          split at hj
          · refine List.mem_of_getElem? (i := j) ?_
            rw [List.getElem?_drop, List.getElem?_take, if_pos (by omega)]; exact hj
          · cases hj
        · obtain rfl : i = m + d := by omega
          refine Or.inr ⟨L[m + 1 + d]'(by omega), ?_, e, he, hb⟩
          refine List.mem_of_getElem? (i := 0) ?_
          rw [List.getElem?_drop, List.getElem?_take, if_pos (by omega), show m + d + 1 + 0 = m + 1 + d by omega]; exact hk
      · obtain ⟨o, q⟩ := x
        rw [List.mk_mem_zipIdx_iff_getElem?, List.getElem?_take] at hx2
        split at hx2
        · rename_i hq
          by_cases hq2 : q < m + d + 1
          · exact h2 (o, q) (by rw [List.mk_mem_zipIdx_iff_getElem?, List.getElem?_take, if_pos hq2]; exact hx2)
          · obtain rfl : q = m + 1 + d := by omega
            rw [hk] at hx2; cases hx2
            exact ⟨hg, fun e he => by have := hdn e he; simpa [show m + (d + 1) = m + 1 + d by omega] using this⟩
        · cases hx2
  refine List.all_eq_true.2 fun k hk => ?_
  have hk := List.mem_range.1 hk
  simp only [Bool.or_eq_true, decide_eq_true_eq]
  by_cases hkm : k < m
  · exact Or.inl hkm
  · refine Or.inr (preChk_of_list ?_)
    have := main (k - m) (by simp at hk; omega)
    rwa [show m + (k - m) = k by omega] at this
def valsOf (pv : List (Nat × Oper × Value)) (i : Nat) : Value := ((pv.find? (fun x => x.1 == i)).map (·.2.2)).getD undef
/-- What is asked of those of pre, closed. -/
def preAll (ops : Array Oper) (m : Nat) (pre calls : List Nat) (l : Array Bool) : Bool :=
  l.size == ops.size && ((List.range ops.size).all fun k => decide (k < m) || !(l.getD k true)) && (pre.all fun i => decide (i < m) && l.getD i false) &&
  ((List.range ops.size).all fun i => !(l.getD i false) || ((ops[i]?).map fun o => o.after.all fun e => !(Region.binds .any e)).getD true) && (calls.all fun i => !(l.getD i true)) && ((List.range m).all fun i => !(l.getD i true) || pre.contains i) &&
  decide (((l.extract 0 (m + 1)).toList.countP fun b => !b) ≤ m + 1 - pre.length) && decide (pre.length ≤ m ∧ 1 ≤ m)
theorem region_pre {L : List Oper} {id : Nat} {a0 : Act} {w : World} (S k W m : Nat) (pre : List Nat) (pv : List (Nat × Oper × Value)) (specs : List Spec) (calls : List Nat) (ds : List (Option Tmp)) {st : Oper} (hm : P.follows .mixedOrders = true) (hs : Region.noSelect L.toArray = true) (hpv : pv.map (·.1) = pre)
    (hfree : preFree L.toArray pre (Array.replicate L.toArray.size false) = true) (hyield : preYields P L.toArray Q pv a0) (hall : preAll L.toArray m pre calls (preArr L.toArray.size pre) = true) (hput : pv.foldl (fun a x => a.put x.2.1.dst x.2.2) a0 = putSome L.toArray (valsOf pv) (fun i => pre.contains i) (List.range m) a0)
    (hc : genChk L.toArray a0.tmps.size m calls = true) (hc2 : ((L.toArray.extract 0 (m + 1)).size == m + 1) = true) (ht1 : preChkL L m pre = true) (ht2 : chainChk L m = true) (hlen : specs.length = m)
    (hds : (List.range m).map (dstOf L.toArray) = ds) (hst : L[m]? = some st) (h0 : StreamOk w S k)
    (hsp : ∀ x ∈ pv, ∀ s, specs[x.1]? = some s → s.holds S w.drew x.2.2)
    (hstep : LateOps P L.toArray (tailQ P L.toArray Q (m + 1)) a0 S k W w.drew specs calls 0 (L.take m) specs)
    (hA : ∀ w', Keeps S w.drew w' → StreamOk w' S (k + W * calls.length) → ForVals S w' (fun a => wpList P L.toArray Q (st :: L.drop (m + 1)) a w') ds specs a0) : (Code.region id L.toArray true).wp P Q a0 w := by
  have ht := tail_of_chain ht1 ht2
  clear ht1 ht2
  subst hlen
  simp only [preAll, Bool.and_eq_true, beq_iff_eq, List.all_eq_true, List.mem_range, Bool.or_eq_true, decide_eq_true_eq, Bool.not_eq_true'] at hall
  obtain ⟨⟨⟨⟨⟨⟨⟨ha1, ha2⟩, ha3⟩, ha4⟩, ha5⟩, ha6⟩, ha7⟩, ha8⟩ := hall
  have hsz : (L.toArray.extract 0 (specs.length + 1)).size = specs.length + 1 := by simpa using hc2
  have hmL : specs.length + 1 ≤ L.length := by simp at hsz; omega
  have hpc : preChk (L.toArray.extract 0 (specs.length + 1)) specs.length pre = true := by
    have h := List.all_eq_true.1 ht specs.length (List.mem_range.2 (by simp; omega))
    simp only [Bool.or_eq_true, decide_eq_true_eq] at h
    exact h.resolve_left (by omega)
  have hsg : st.guard = none := pchk3 hpc specs.length (Nat.le_refl _) st (by rw [ext_get _ _ _ (by omega)]; simpa using hst)
  have ht1 : tailChkP L.toArray (specs.length + 1) pre = true := by
    refine List.all_eq_true.2 fun k hk => ?_
    have h := List.all_eq_true.1 ht k hk
    simp only [Bool.or_eq_true, decide_eq_true_eq] at h ⊢
    exact h.imp (fun h => by omega) (fun h => h)
  have tailNone : ∀ o ∈ L.drop (specs.length + 1), o.guard = none := by
    intro o ho
    obtain ⟨j, hj⟩ := List.getElem?_of_mem ho
    rw [List.getElem?_drop] at hj
    have hlt := (List.getElem?_eq_some_iff.1 hj).1
    have h := List.all_eq_true.1 ht (specs.length + 1 + j) (List.mem_range.2 (by simpa using hlt))
    simp only [Bool.or_eq_true, decide_eq_true_eq] at h
    exact pchk3 (h.resolve_left (by omega)) _ (Nat.le_refl _) o (by rw [ext_get _ _ _ (Nat.lt_succ_self _)]; simpa using hj)
  have dEq : ∀ j, j < specs.length → dstOf (L.toArray.extract 0 (specs.length + 1)) j = dstOf L.toArray j := fun j hj => by unfold dstOf; rw [ext_get _ _ _ (by omega)]
  have pEq : ∀ (vals : Nat → Value) (f : Nat → Bool) (l : List Nat), (∀ j ∈ l, j < specs.length) → ∀ a, putSome (L.toArray.extract 0 (specs.length + 1)) vals f l a = putSome L.toArray vals f l a := by
    intro vals f l
    induction l with
    | nil => intro _ a; rfl
    | cons j l ih =>
      intro hl a
      have ih' := ih (fun i hi => hl i (List.mem_cons_of_mem _ hi))
      simp only [putSome, List.foldl_cons] at ih' ⊢
      rw [dEq j (hl j List.mem_cons_self)]
      exact ih' _
  have hc' : genChk (L.toArray.extract 0 (specs.length + 1)) a0.tmps.size specs.length calls = true := by
    simp only [genChk, Bool.and_eq_true, List.all_eq_true, List.mem_range, decide_eq_true_eq, Bool.or_eq_true, beq_iff_eq] at hc ⊢
    obtain ⟨⟨⟨⟨⟨hdst, hgd⟩, hmn⟩, h1n⟩, hnd⟩, hcm⟩ := hc
    refine ⟨⟨⟨⟨⟨fun i hi j hj => ?_, fun i hi => ?_⟩, by omega⟩, by omega⟩, hnd⟩, hcm⟩
    · rw [hsz] at hi hj
      have := hdst i (by simp; omega) j (by simp; omega)
      have ei : dstOf (L.toArray.extract 0 (specs.length + 1)) i = dstOf L.toArray i := by unfold dstOf; rw [ext_get _ _ _ hi]
      have ej : dstOf (L.toArray.extract 0 (specs.length + 1)) j = dstOf L.toArray j := by unfold dstOf; rw [ext_get _ _ _ hj]
      rw [ei, ej]; exact this
    · rw [ext_get _ _ _ (by omega)]; exact hgd i hi
  have gx : ∀ (i : Nat) (b : Bool), i < specs.length + 1 → ((preArr L.toArray.size pre).extract 0 (specs.length + 1)).getD i b = (preArr L.toArray.size pre).getD i b := by
    intro i b hi
    have : i < (preArr L.toArray.size pre).size := by rw [ha1]; simp; omega
    simp only [Array.getD_eq_getD_getElem?, Array.getElem?_extract, Nat.zero_add, Nat.sub_zero]
    rw [if_pos (by omega)]
  have lp : ∀ i, i < specs.length → ((preArr L.toArray.size pre).getD i true = pre.contains i) := by
    intro i hi
    rcases Bool.eq_false_or_eq_true ((preArr L.toArray.size pre).getD i true) with h | h
    · rw [h]; exact ((ha6 i hi).resolve_left (by rw [h]; decide)).symm
    · rw [h]
      rcases Bool.eq_false_or_eq_true (pre.contains i) with h2 | h2
      · have := (ha3 i (by simpa using h2)).2
        rw [getD_two (by rw [ha1]; simp; omega) false true, h] at this
        cases this
      · exact h2.symm
  refine wp_region_held_drew (S := fun _ => True) hm trivial fun _ => ?_
  have hlenp : pv.length = pre.length := by rw [← hpv]; simp
  have hfz : L.toArray.size = (specs.length + 1 - pre.length + (L.length - (specs.length + 1))) + pv.length := by simp; omega
  have hf2 : preFree L.toArray (pv.map (·.1)) (Array.replicate L.toArray.size false) = true := by rw [hpv]; exact hfree
  have main := pre_taken (P := P) (Q := Q) hs pv (Array.replicate L.toArray.size false) (specs.length + 1 - pre.length + (L.length - (specs.length + 1))) a0 w.drew hf2 hyield
  rw [← hfz] at main
  refine main ?_
  refine held_of_any _ _ _ _ ?_
  rw [hpv, hput]
  refine tail_anyP (specs.length + 1) pre ht1 (preArr L.toArray.size pre) ha1 (fun k h1 h2 => ((ha2 k h2).resolve_left (by omega))) (fun i hi => ⟨by have := (ha3 i hi).1; omega, (ha3 i hi).2⟩) ?_ (L.length - (specs.length + 1)) (specs.length + 1) _ (by simp; omega) (Nat.le_refl _) _ _ ?_
  · intro i o ho hli e he hb
    exfalso
    have hlt := (Array.getElem?_eq_some_iff.1 ho).1
    have h := (ha4 i hlt).resolve_left (by rw [hli]; decide)
    rw [ho] at h
    simp only [Option.map_some, Option.getD_some] at h
    have h1 := Array.all_eq_true_iff_forall_mem.1 h e he
    rw [hb] at h1; cases h1
  have g := gen_pre (P := P) (ops := L.toArray.extract 0 (specs.length + 1)) (Q := tailQ P L.toArray Q (specs.length + 1)) (m := specs.length) (pre := pre) (W := W) (a0 := a0) (S := S) (k := k) (w0 := w.drew) (specs := specs) (calls := calls) (st := st) hsz hc' rfl (by rw [ext_get _ _ _ (by omega)]; simpa using hst) hsg hpc ?_ ?_ (specs.length + 1 - pre.length) ((preArr L.toArray.size pre).extract 0 (specs.length + 1)) (valsOf pv) w.drew (by rw [Array.size_extract, ha1]; simp; omega) ?_ ?_ ?_ (Keeps.refl _ _) ?_ ?_ ha7
  · rw [pEq _ _ _ (fun j hj => List.mem_range.1 hj)] at g
    have e0 : putSome L.toArray (valsOf pv) (fun i => ((preArr L.toArray.size pre).extract 0 (specs.length + 1)).getD i true) (List.range specs.length) a0 = putSome L.toArray (valsOf pv) (fun i => pre.contains i) (List.range specs.length) a0 := putSome_congr _ _ (fun j hj => by
      have hj := List.mem_range.1 hj
      exact ⟨by rw [gx j true (by omega), lp j hj], fun _ => rfl⟩)
    rw [e0] at g
    exact g
  · intro i o s hi ho hs a w' c hk hst2 hcc hfr hdp K hK
    have hoL : L[i]? = some o := by rw [ext_get _ _ _ (by omega)] at ho; simpa using ho
    have st2 := lateOps_at 0 _ _ hstep i o s (by rw [List.getElem?_take_of_lt hi]; exact hoL) hs
    rw [Nat.zero_add] at st2
    refine st2 a w' c hk hst2 hcc (fun t ht => hfr t ?_) (fun j t s' hj ht hs' => hdp j t s' hj (by rw [dEq j (List.getElem?_eq_some_iff.1 hs').1]; exact ht) hs') K hK
    rw [Array.extract_extract] 
    simpa [Nat.min_eq_left (show specs.length ≤ specs.length + 1 by omega)] using ht
  · intro vals w' hk hst2 hs
    rw [pEq vals _ _ (fun j hj => List.mem_range.1 hj)]
    have h := hA w' hk hst2
    subst hds
    have h2 := forVals_all (S := S) (w := w') (vals := vals) (ops := L.toArray) (K := fun a => wpList P L.toArray Q (st :: L.drop (specs.length + 1)) a w') specs 0 a0 (by rw [← List.range_eq_range']; exact h) (fun j s hj => by rw [Nat.zero_add]; exact hs j s hj)
    rw [← List.range_eq_range'] at h2
    have h3 := toTail_of (st :: L.drop (specs.length + 1)) (fun o ho => by
      rcases List.mem_cons.1 ho with rfl | ho
      · exact hsg
      · exact tailNone o ho) _ _ h2
    exact h3.imp (fun h => tailQ_wp h) (fun h => h)
  · rw [gx _ _ (Nat.lt_succ_self _)]
    exact (ha2 specs.length (by simp; omega)).resolve_left (by omega)
  · intro i o ho hli e he hb
    exfalso
    have hlt := (Array.getElem?_eq_some_iff.1 ho).1
    have hlt2 : i < specs.length + 1 := by omega
    rw [ext_get _ _ _ hlt2] at ho
    rw [gx i false hlt2] at hli
    have h := (ha4 i (Array.getElem?_eq_some_iff.1 ho).1).resolve_left (by rw [hli]; decide)
    rw [ho] at h
    simp only [Option.map_some, Option.getD_some] at h
    have h1 := Array.all_eq_true_iff_forall_mem.1 h e he
    rw [hb] at h1; cases h1
  · intro i hi
    rw [gx i false (by have := (ha3 i hi).1; omega)]
    exact (ha3 i hi).2
  · have : calls.countP (fun i => ((preArr L.toArray.size pre).extract 0 (specs.length + 1)).getD i true) = 0 := List.countP_eq_zero.2 (fun i hi => by
      have h5 := hc
      simp only [genChk, Bool.and_eq_true, List.all_eq_true, decide_eq_true_eq] at h5
      have h6 := h5.2 i hi
      rw [gx i true (by omega), ha5 i hi]
      decide)
    rw [this, Nat.mul_zero]
    exact h0
  · intro i s h hs2
    have hlt := (List.getElem?_eq_some_iff.1 hs2).1
    rw [gx i true (by omega), lp i hlt] at h
    have hmem : i ∈ pv.map (·.1) := by rw [hpv]; simpa using h
    have hfound : (pv.find? (fun x => x.1 == i)).isSome = true := by
      rw [List.find?_isSome]
      obtain ⟨x, hx, hxi⟩ := List.mem_map.1 hmem
      exact ⟨x, hx, by simp [hxi]⟩
    obtain ⟨x, hx⟩ := Option.isSome_iff_exists.1 hfound
    have hxm := List.mem_of_find?_eq_some hx
    have hxi : x.1 = i := by have := List.find?_some hx; simpa using this
    unfold valsOf
    rw [hx]
    exact hsp x hxm s (by rw [hxi]; exact hs2)
end
end Go.Proofs.YtppinnjdaoaddaaGreatDoor

namespace Go.Proofs.YtppinnjdaoaddaaGreatDoor
open Go.RowKit

theorem calls_pick (S k : Nat) (v : Value) (vals : List Int) (p : Int → Prop) (w : World) (h : StreamOk w S k) (hk : k ≤ 1000000000) (ha : (Spec.arr vals.length (· = vals.map (Value.int .i64))).holds S w v) (h1 : 1 ≤ vals.length) (h2 : vals.length ≤ 1000) (hp : ∀ x ∈ vals, p x) :
    Calls Tryz.prog 11 #[.pointer (some ⟨S, 0, none⟩), v] w (PickPost S (k + 1) p w) := by
  obtain ⟨b, vs, rfl, rfl, hb, hl, hc⟩ := ha
  refine pick_any S k b vals.length vals.length vals p w h hk hl hb h1 h2 (fun i hi => ?_) (fun i hi => ?_)
  · exact hc i _ (by simp [hi])
  · rw [show vals.getD i _ = vals[i] by simp [hi]]; exact hp _ (List.getElem_mem hi)

theorem calls_some (S k : Nat) (v : Value) (vals : List (List UInt8)) (p : List UInt8 → Prop) (w : World) (h : StreamOk w S k) (hk : k ≤ 1000000000) (ha : (Spec.arr vals.length (· = vals.map (fun s => Value.string ⟨s.toArray⟩))).holds S w v) (h1 : 1 ≤ vals.length) (h2 : vals.length ≤ 1000) (hp : ∀ x ∈ vals, p x) :
    Calls Tryz.prog 26 #[.pointer (some ⟨S, 0, none⟩), v] w (SomePost S (k + 1) p w) := by
  obtain ⟨b, vs, rfl, rfl, hb, hl, hc⟩ := ha
  refine some_any S k b vals.length vals.length vals p w h hk hl hb h1 h2 (fun i hi => ?_) (fun i hi => ?_)
  · exact hc i _ (by simp [hi])
  · rw [show vals.getD i _ = vals[i] by simp [hi]]; exact hp _ (List.getElem_mem hi)

/-- A slot by its place. -/
theorem slot_of {a : Act} {t : Tmp} {v : Value} (h : a.eval (.tmp t) = v) : a.tmps[t]?.getD undef = v := by rw [← h]; simp [Act.eval]
end Go.Proofs.YtppinnjdaoaddaaGreatDoor
