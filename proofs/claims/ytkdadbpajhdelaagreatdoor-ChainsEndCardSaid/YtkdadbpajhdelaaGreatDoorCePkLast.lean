/- What is proved here: lemmas and contracts for the statement, put together out of smaller texts (ClaimChainsEnd). No condition beyond those stated. -/
import Derived.Test.YtkdadbpajhdelaaGreatDoorCePkK
namespace Go.Proofs.YtkdadbpajhdelaaGreatDoor
open Go.ChangeShapes Go.WideShapes Go.ChangeAt Go.RowKit
set_option linter.unusedVariables false
/-- The listed variables. -/
abbrev laidL : List (String × DataW Unit) := [("math/bits.deBruijn32tab", Rows.laid_math_bits_deBruijn32tab), ("unicode/utf8.acceptRanges", Rows.laid_unicode_utf8_acceptRanges), ("unicode/utf8.first", Rows.laid_unicode_utf8_first)]

set_option maxRecDepth 100000 in
theorem chainsEnd_lifted (os : Os) (started : os.Started) (H : Type) (enc : TypeId × Value → H) :
    ReturnsInHanded {} Tryz.checked os 3 .any (fun w args => (Rows.chainsEndSpec.pre enc Tryz.prog Tryz.f3 [] false w args ∧ laidMetH Tryz.prog laidL w) ∧ sizedMet enc Tryz.prog Tryz.f3 (OpenSpec.ofChange Rows.chainsEndSpec) false w args)
      (Rows.chainsEndSpec.post enc Tryz.prog Tryz.f3 false true false false) := by
  refine returnsInHanded_of_change_and (C := Tryz.checked) (X := fun w _ => laidMetH Tryz.prog laidL w) (fun _ _ _ hh h => h.of_heap hh) own started (by kernel_rfl) Tryz.func3
    (ChangeSpec.witness_shaped (enc := enc) (C := Tryz.checked) (os := os) (X := fun w _ => laidMetH Tryz.prog laidL w) false (World.laidAll Tryz.prog os laidL) #[.slice none 0 0] 8 (World.laidAll_os _ _ _)
      (World.shaped_of_ZipB (by kernel_rfl) (by kernel_rfl)) (by kernel_rfl) (by kernel_rfl) (by kernel_rfl)
      (by rw [MakeChecks.laidMetH_plain _ _ _ (by kernel_rfl)]; exact laidMet_laidAll _ (by kernel_rfl) (by kernel_rfl))) ?_
  intro W base args ds gs before hval0 hW _ _ hL _
  have hval : ∀ (j : Nat) t v, Tryz.f3.params[j]? = some t → args[j]? = some v → Value.okWide Tryz.prog W .any base t v := hval0
  have hW' := hW
  obtain ⟨p, q, hA0, hV, rfl, hfz, hnd⟩ := hW
  have hA : DataW.TrodAll enc Tryz.prog W 0 (fun _ => true) true Tryz.f3.params.toList args.toList ds p := hA0
  rw [Tryz.params3] at hA hval
  obtain ⟨v0, vs0, d0, ds0, p0, q0, hargs, rfl, rfl, h0, r0⟩ := trodAll_cons hA
  obtain ⟨rfl, rfl, rfl⟩ := trodAll_nil r0
  obtain rfl : args = #[v0] := by cases args; simp_all
  obtain ⟨rfl, rfl⟩ := trodVars_none hV
  obtain ⟨a0, len0, cap0, rfl⟩ := okWide_slice Tryz.underlying22 (hval 0 22 v0 rfl rfl)
  have k0 := h0
  have lt0 : ∀ x ∈ p0, x.block < W.heap.size := by obtain ⟨m, hm⟩ := k0; exact DataW.trod_lt m _ _ _ hm
  obtain ⟨z0, w0⟩ : ∃ zs, ArgRow W a0 len0 cap0 zs := by
    obtain ⟨fuel, hf⟩ := h0
    rcases open_ints Tryz.underlying22 Tryz.underlying3 (by kernel_rfl) hf with ⟨hcs, _⟩ | ⟨x, l, c, zs, hcs, _, hl, hm, hz, _, hcell, hwz⟩
    · simp [Value.cells] at hcs
      obtain ⟨rfl, rfl, rfl⟩ := hcs
      exact ⟨[], .inl rfl⟩
    · simp [Value.cells] at hcs
      obtain ⟨rfl, rfl, rfl⟩ := hcs
      exact ⟨zs, argRow_of hl hm (by simpa using hz) hcell⟩
  have hT := tab_of_laid hL
  clear hA0 hval0
  refine (chains_true W a0 len0 cap0 z0 w0 hT).mono fun e W' ⟨he, bel⟩ => ?_
  subst he
  exact ⟨_, rfl, _, _, _, [], _, [], hW', trodAll_mk1 (shut_bool Tryz.underlying4 _), (trodAll_cons_mk (Below.trod laidOut (by kernel_rfl) (of_decide_eq_true (by kernel_rfl)) k0 bel lt0) trodAll_mk0), rfl, bel.frame _, fun h => by cases h⟩

/-! The closed facts, each a declaration of its own (what the kernel holds is freed only at a declaration's end). -/
set_option maxHeartbeats 400000000 in
theorem chainsEnd_q1 : Tryz.prog.funcNamed "hookflash/flashkeep2.ChainsEnd" = some 3 := by kernel_rfl
set_option maxHeartbeats 400000000 in
theorem chainsEnd_q2 : joinedFacts Tryz.prog 3 Tryz.f3 Rows.chainsEndSpec Rows.chainsEndRow = true := by
  unfold joinedFacts
  simp only [Bool.and_eq_true]
  repeat' (refine And.intro ?_ ?_)
  all_goals (as_aux_lemma => kernel_rfl)
set_option maxHeartbeats 400000000 in
theorem chainsEnd_q3 : Tryz.f3.isInstance Tryz.prog Rows.chainsEndRow.origin Rows.chainsEndRow.targs := (of_decide_eq_true (by kernel_rfl))
set_option maxHeartbeats 400000000 in
theorem chainsEnd_q4 : Tryz.f3.isWrapper Tryz.prog Rows.chainsEndRow.wrapper Rows.chainsEndRow.mainSum := by unfold Func.isWrapper; first | (rw [if_pos (by decide +kernel)]; kernel_rfl) | (rw [if_neg (by decide +kernel)]; exact ⟨rfl, rfl⟩)
set_option maxHeartbeats 400000000 in
theorem chainsEnd_q5 : Rows.chainsEndRow.wfByText (OpenSpec.ofChange Rows.chainsEndSpec) = true := by kernel_rfl
set_option maxHeartbeats 400000000 in
theorem chainsEnd_q6 : Tryz.prog.mainIs = some (Rows.chainsEndCard.stood.harness.1, Rows.chainsEndCard.stood.harness.2.toList) := by kernel_rfl
set_option maxHeartbeats 400000000 in
theorem chainsEnd_q7 : Rows.chainsEndCard.stood.looks = Tryz.prog.looks [] := by kernel_rfl
set_option maxHeartbeats 400000000 in
theorem chainsEnd_q8 : false = Rows.chainsEndRow.goesBy Tryz.prog := by kernel_rfl
set_option maxHeartbeats 400000000 in
theorem chainsEnd_q9 : Tryz.prog.wantsStandIn 22 = false := by kernel_rfl
set_option maxHeartbeats 400000000 in
theorem chainsEnd_row : Rows.ChainsEndSaid :=
  OpenClaim.holds_of_wide 3 Tryz.f3 rfl rfl rfl rfl rfl rfl rfl ⟨rfl, rfl, rfl, rfl, rfl⟩ rfl rfl rfl rfl rfl chainsEnd_q1 Tryz.func3 chainsEnd_q2
    chainsEnd_q3 chainsEnd_q4
    (fun os started H enc _ => chainsEnd_lifted os started H enc)

set_option maxHeartbeats 400000000 in
/-- The statement. -/
theorem chainsEnd_card : Rows.ChainsEndCardSaid :=
  Claim7.holds_tied_plain_at .later [] [.data, .data, .pinned] true Rows.chainsEndCard.stood.harness Rows.chainsEndCard.stood.looks
    chainsEnd_row (fun _ h => by cases h) chainsEnd_q5 (fun _ h => by cases h) chainsEnd_row_tie rfl ⟨rfl, rfl⟩ chainsEnd_q6 rfl
    (fun f fn hf hfn => by
      obtain rfl : f = 3 := Option.some.inj (chainsEnd_q1.symm.trans hf) |>.symm
      obtain rfl : fn = Tryz.f3 := (Option.some.inj (Tryz.func3.symm.trans hfn)).symm
      exact ⟨chainsEnd_q7, fun j t ht => by
        rw [Tryz.params3] at ht
        have h3 : t = 22 := by
          rcases j with _ | j
          · simpa using ht.symm
          · simp at ht
        subst h3
        exact chainsEnd_q9⟩)
    chainsEnd_q8
#print axioms chainsEnd_card
end Go.Proofs.YtkdadbpajhdelaaGreatDoor
