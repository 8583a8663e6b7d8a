/- What is proved here: lemmas and contracts for the statement, put together out of smaller texts (ClaimCallsSent). No condition beyond those stated. -/
import Derived.Test.YtppinnjdaoaddaaGreatDoorCsPkO
import Derived.Test.YtppinnjdaoaddaaGreatDoorRows
import Derived.Test.YtppinnjdaoaddaaGreatDoorTie
import Derived.Test.YtppinnjdaoaddaaGreatDoorCards
import Derived.ProofKit
import Derived.OpenShut
import Derived.ShutString
import Derived.ChangeOld
import Derived.LaidMore
import Derived.Lay
import Derived.SevenTiedAt
import Derived.Lib.LaidU8
import Derived.Lib.LaidTab
namespace Go.Proofs.YtppinnjdaoaddaaGreatDoor
open Go.ChangeShapes Go.WideShapes Go.ChangeAt Go.RowKit
set_option linter.unusedVariables false

theorem own : ownKnob Tryz.prog.godebug = none := by kernel_rfl
theorem laidOut : laidOutB Tryz.prog = true := by kernel_rfl
/-- The listed variables. -/
abbrev laidL : List (String × DataW Unit) := [("math/bits.deBruijn32tab", Rows.laid_math_bits_deBruijn32tab), ("math/bits.deBruijn64tab", Rows.laid_math_bits_deBruijn64tab), ("internal/strconv.uint64pow10", Rows.laid_internal_strconv_uint64pow10), ("unicode/utf8.acceptRanges", Rows.laid_unicode_utf8_acceptRanges), ("unicode/utf8.first", Rows.laid_unicode_utf8_first)]
theorem tT20 : (Tryz.prog.globals[1]?).map (·.type) = some 225 := by kernel_rfl
theorem tabW_of_laid {W : World} (h : laidMetH Tryz.prog laidL W) : TabW W.heap.size W := by
  rw [MakeChecks.laidMetH_plain _ _ _ (by kernel_rfl)] at h
  obtain ⟨g, t, cs, fuel, p, hg, ht, hv, hd⟩ := Lib.laidMet.reads h (List.mem_cons_of_mem _ (List.mem_cons_of_mem _ (List.mem_cons_self ..)))
  obtain rfl := Option.some.inj (gPow.symm.trans hg)
  obtain rfl := Option.some.inj (tT20.symm.trans ht)
  have hd2 : DataW.trod _ Tryz.prog W _ _ _ _ _ cs.toList = some (Lib.tabData .u64 Lib.pow10Tab, p) := hd
  have h1 : Lib.TabIs Tryz.prog W "internal/strconv.uint64pow10" .u64 Lib.pow10Tab := by
    unfold Lib.TabIs
    rw [hv, ← Lib.cells_of_tab Tryz.underlying225 Tryz.underlying196 (by kernel_rfl) (by kernel_rfl) hd2]
  refine ⟨h1, ?_⟩
  have := h1.cell gPow 0 (by decide)
  rcases Nat.lt_or_ge 1 W.heap.size with h | h
  · exact h
  · simp [World.cell?, Array.getElem?_eq_none h] at this

set_option maxRecDepth 100000 in
theorem callsSent_lifted (os : Os) (started : os.Started) (H : Type) (enc : TypeId × Value → H) :
    ReturnsInHanded {} Tryz.checked os 5 .any (fun w args => (Rows.callsSentSpec.pre enc Tryz.prog Tryz.f5 [] false w args ∧ laidMetH Tryz.prog laidL w) ∧ sizedMet enc Tryz.prog Tryz.f5 (OpenSpec.ofChange Rows.callsSentSpec) false w args)
      (Rows.callsSentSpec.post enc Tryz.prog Tryz.f5 false true false false) := by
  refine returnsInHanded_of_change_and (C := Tryz.checked) (X := fun w _ => laidMetH Tryz.prog laidL w) (fun _ _ _ hh h => h.of_heap hh) own started (by kernel_rfl) Tryz.func5
    (ChangeSpec.witness_shaped (enc := enc) (C := Tryz.checked) (os := os) (X := fun w _ => laidMetH Tryz.prog laidL w) false (World.laidAll Tryz.prog os laidL) #[.slice none 0 0] 8 (World.laidAll_os _ _ _)
      (World.shaped_of_ZipB (by kernel_rfl) (by kernel_rfl)) (by kernel_rfl) (by kernel_rfl) (by kernel_rfl)
      (by rw [MakeChecks.laidMetH_plain _ _ _ (by kernel_rfl)]; exact laidMet_laidAll _ (by kernel_rfl) (by kernel_rfl))) ?_
  intro W base args ds gs before hval0 hW _ _ hL _
  have hval : ∀ (j : Nat) t v, Tryz.f5.params[j]? = some t → args[j]? = some v → Value.okWide Tryz.prog W .any base t v := hval0
  have hW' := hW
  obtain ⟨p, q, hA0, hV, rfl, hfz, hnd⟩ := hW
  have hA : DataW.TrodAll enc Tryz.prog W 0 (fun _ => true) true Tryz.f5.params.toList args.toList ds p := hA0
  rw [Tryz.params5] at hA hval
  obtain ⟨v0, vs0, d0, ds0, p0, q0, hargs, rfl, rfl, h0, r0⟩ := trodAll_cons hA
  obtain ⟨rfl, rfl, rfl⟩ := trodAll_nil r0
  obtain rfl : args = #[v0] := by cases args; simp_all
  obtain ⟨rfl, rfl⟩ := trodVars_none hV
  obtain ⟨a0, len0, cap0, rfl⟩ := okWide_slice Tryz.underlying22 (hval 0 22 v0 rfl rfl)
  have k0 := h0
  have lt0 : ∀ x ∈ p0, x.block < W.heap.size := by obtain ⟨m, hm⟩ := k0; exact DataW.trod_lt m _ _ _ hm
  obtain ⟨z0, w0⟩ : ∃ zs, ArgRow W a0 len0 cap0 zs := by
    obtain ⟨fuel, hf⟩ := h0
    rcases open_ints Tryz.underlying22 Tryz.underlying3 (by kernel_rfl) hf with ⟨hcs, _⟩ | ⟨x, l, c, zs, hcs, _, hl, hm, hz, _, hcell, hwz⟩
    · simp [Value.cells] at hcs
      obtain ⟨rfl, rfl, rfl⟩ := hcs
      exact ⟨[], .inl rfl⟩
    · simp [Value.cells] at hcs
      obtain ⟨rfl, rfl, rfl⟩ := hcs
      exact ⟨zs, argRow_of hl hm (by simpa using hz) hcell⟩
  have hT := tabW_of_laid hL
  clear hA0 hval0
  refine (sent_true W a0 len0 cap0 z0 w0 hT).mono fun e W' ⟨he, bel⟩ => ?_
  subst he
  exact ⟨_, rfl, _, _, _, [], _, [], hW', trodAll_mk1 (shut_bool Tryz.underlying4 _), (trodAll_cons_mk (Below.trod laidOut (by kernel_rfl) (of_decide_eq_true (by kernel_rfl)) k0 bel lt0) trodAll_mk0), rfl, bel.frame _, fun h => by cases h⟩

/-! The closed facts, each a declaration of its own (what the kernel holds is freed only at a declaration's end). -/
set_option maxHeartbeats 400000000 in
theorem callsSent_q1 : Tryz.prog.funcNamed "hookflash/flashlaw1.CallsSent" = some 5 := by kernel_rfl
set_option maxHeartbeats 400000000 in
theorem callsSent_q2 : joinedFacts Tryz.prog 5 Tryz.f5 Rows.callsSentSpec Rows.callsSentRow = true := by
  unfold joinedFacts
  simp only [Bool.and_eq_true]
  repeat' (refine And.intro ?_ ?_)
  all_goals (as_aux_lemma => kernel_rfl)
set_option maxHeartbeats 400000000 in
theorem callsSent_q3 : Tryz.f5.isInstance Tryz.prog Rows.callsSentRow.origin Rows.callsSentRow.targs := (of_decide_eq_true (by kernel_rfl))
set_option maxHeartbeats 400000000 in
theorem callsSent_q4 : Tryz.f5.isWrapper Tryz.prog Rows.callsSentRow.wrapper Rows.callsSentRow.mainSum := by unfold Func.isWrapper; first | (rw [if_pos (by decide +kernel)]; kernel_rfl) | (rw [if_neg (by decide +kernel)]; exact ⟨rfl, rfl⟩)
set_option maxHeartbeats 400000000 in
theorem callsSent_q5 : Rows.callsSentRow.wfByText (OpenSpec.ofChange Rows.callsSentSpec) = true := by kernel_rfl
set_option maxHeartbeats 400000000 in
theorem callsSent_q6 : Tryz.prog.mainIs = some (Rows.callsSentCard.stood.harness.1, Rows.callsSentCard.stood.harness.2.toList) := by kernel_rfl
set_option maxHeartbeats 400000000 in
theorem callsSent_q7 : Rows.callsSentCard.stood.looks = Tryz.prog.looks [] := by kernel_rfl
set_option maxHeartbeats 400000000 in
theorem callsSent_q8 : false = Rows.callsSentRow.goesBy Tryz.prog := by kernel_rfl
set_option maxHeartbeats 400000000 in
theorem callsSent_q9 : Tryz.prog.wantsStandIn 22 = false := by kernel_rfl
set_option maxHeartbeats 400000000 in
theorem callsSent_row : Rows.CallsSentSaid :=
  OpenClaim.holds_of_wide 5 Tryz.f5 rfl rfl rfl rfl rfl rfl rfl ⟨rfl, rfl, rfl, rfl, rfl⟩ rfl rfl rfl rfl rfl callsSent_q1 Tryz.func5 callsSent_q2
    callsSent_q3 callsSent_q4
    (fun os started H enc _ => callsSent_lifted os started H enc)

set_option maxHeartbeats 400000000 in
/-- The statement. -/
theorem callsSent_card : Rows.CallsSentCardSaid :=
  Claim7.holds_tied_plain_at .later [] [.data, .data, .data, .data, .pinned] true Rows.callsSentCard.stood.harness Rows.callsSentCard.stood.looks
    callsSent_row (fun _ h => by cases h) callsSent_q5 (fun _ h => by cases h) callsSent_row_tie rfl ⟨rfl, rfl⟩ callsSent_q6 rfl
    (fun f fn hf hfn => by
      obtain rfl : f = 5 := Option.some.inj (callsSent_q1.symm.trans hf) |>.symm
      obtain rfl : fn = Tryz.f5 := (Option.some.inj (Tryz.func5.symm.trans hfn)).symm
      exact ⟨callsSent_q7, fun j t ht => by
        rw [Tryz.params5] at ht
        have h3 : t = 22 := by
          rcases j with _ | j
          · simpa using ht.symm
          · simp at ht
        subst h3
        exact callsSent_q9⟩)
    callsSent_q8
#print axioms callsSent_card
end Go.Proofs.YtppinnjdaoaddaaGreatDoor
