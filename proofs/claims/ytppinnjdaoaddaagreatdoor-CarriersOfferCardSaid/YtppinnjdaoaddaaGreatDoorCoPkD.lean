/- What is proved here: lemmas and contracts for the statement, put together out of smaller texts (CarrDeck, CarrRate, CarrMsrA, CarrPrice, CarrDof, FlatSet, OwnK, CarrOff, CarrSrt). No condition beyond those stated. -/
import Derived.Test.YtppinnjdaoaddaaGreatDoorCoPkC
import Derived.Test.YtppinnjdaoaddaaGreatDoorCoPkA
import Derived.Test.YtppinnjdaoaddaaGreatDoorShelfPort
import Derived.Test.YtppinnjdaoaddaaGreatDoorCoPkB
import Derived.Deep.RegionWith
import Derived.StillTailTactics
import Derived.Shelf.SlSortCmp.SmallK
import Derived.Test.YtppinnjdaoaddaaGreatDoorShelfOff
import Derived.Test.YtppinnjdaoaddaaGreatDoorShelfHas
set_option linter.unusedVariables false
set_option linter.unusedSimpArgs false
namespace Go.Proofs.YtppinnjdaoaddaaGreatDoor
open Go.RowKit

set_option maxRecDepth 100000 in
set_option maxHeartbeats 4000000 in
theorem checkDeck_any (w : World) (d : Deck) (hd : DeckFine w d) : Calls Tryz.prog 68 #[.agg d.cells.toArray] w (ErrPost (deckErr d) w) := by
  have hlen := hd.row.len
  have hfew := hd.row.few
  have HC0 := Lib.hid (deck_cases d (by omega))
  have HDN : Hid (deckNum d = (isMomB d.from_ && (inB d.setup 0 100000000 && (inB d.least 0 86400000 && inB d.step 1 86400000)))) := rfl
  have HR0 := Lib.hid hd.row
  have hcap := hd.cap
  clear hd
  obtain ⟨df, ds, dl, dp, ra, rn, rc, rates⟩ := d
  simp only at hlen hfew HC0 HDN HR0 hcap
  generalize deckErr ⟨df, ds, dl, dp, ra, rn, rc, rates⟩ = R at HC0 ⊢
  generalize deckNum ⟨df, ds, dl, dp, ra, rn, rc, rates⟩ = G at HC0 HDN
  rw [← hlen] at HC0
  have HLEN := Lib.hid hlen
  clear hlen
  show Calls Tryz.prog 68 #[.agg #[.int .i64 df, .int .i64 ds, .int .i64 dl, .int .i64 dp, .slice ra rn rc]] w _
  go_enter Tryz.func68, Tryz.ntmps68
  go_wp2_with fail
  refine (isMoment_any df _).mono ?_
  rintro e w1 ⟨rfl, rfl⟩
  generalize isMomB df = g1 at HDN ⊢
  cases g1
  · obtain rfl : R = 1 := HC0.out.1 HDN.out
    clear HC0 HDN
    skip
    as_aux_lemma =>
      go_wp2_with fail
      go_ret
      exact ⟨rfl, ext_alloc (Below.refl _ _)⟩
  skip
  as_aux_lemma =>
    go_wp2_with fail
    refine (within_c ds 0 100000000 _).mono ?_
    rintro e w1 ⟨rfl, rfl⟩
    generalize inB ds 0 100000000 = g2 at HDN ⊢
    cases g2
    · obtain rfl : R = 1 := HC0.out.1 HDN.out
      clear HC0 HDN
      skip
      as_aux_lemma =>
        go_wp2_with fail
        go_ret
        exact ⟨rfl, ext_alloc (Below.refl _ _)⟩
    skip
    as_aux_lemma =>
      go_wp2_with fail
      refine (within_c dl 0 86400000 _).mono ?_
      rintro e w1 ⟨rfl, rfl⟩
      generalize inB dl 0 86400000 = g3 at HDN ⊢
      cases g3
      · obtain rfl : R = 1 := HC0.out.1 HDN.out
        clear HC0 HDN
        skip
        as_aux_lemma =>
          go_wp2_with fail
          go_ret
          exact ⟨rfl, ext_alloc (Below.refl _ _)⟩
      skip
      as_aux_lemma =>
        go_wp2_with fail
        refine (within_c dp 1 86400000 _).mono ?_
        rintro e w1 ⟨rfl, rfl⟩
        generalize inB dp 1 86400000 = g4 at HDN ⊢
        cases g4
        · obtain rfl : R = 1 := HC0.out.1 HDN.out
          clear HC0 HDN
          skip
          as_aux_lemma =>
            go_wp2_with fail
            go_ret
            exact ⟨rfl, ext_alloc (Below.refl _ _)⟩
        have HC := Lib.hid (HC0.out.2 HDN.out)
        have hbig : ¬ (5000 : Int) < rn := by omega
        clear HC0 HDN
        skip
        as_aux_lemma =>
          go_wp2_with fail
          clear hbig
          have HB0 : Hid (Below w.heap.size w (w.alloc (.cells #[.int .i64 df, .int .i64 ds, .int .i64 dl, .int .i64 dp, .slice ra rn rc] 63))) := ext_alloc (Below.refl _ _)
          have b4 : (w.alloc (.cells #[.int .i64 df, .int .i64 ds, .int .i64 dl, .int .i64 dp, .slice ra rn rc] 63)).cell? ⟨w.heap.size, 4, none⟩ = some (.slice ra rn rc) := by go_simp
          have hTl : w.heap.size < (w.alloc (.cells #[.int .i64 df, .int .i64 ds, .int .i64 dl, .int .i64 dp, .slice ra rn rc] 63)).heap.size := by simp
          generalize w.alloc (.cells #[.int .i64 df, .int .i64 ds, .int .i64 dl, .int .i64 dp, .slice ra rn rc] 63) = W0 at HB0 b4 hTl ⊢
          have HR := Lib.hid (HR0.out.below HB0.out)
          clear HR0
          generalize hTT : w.heap.size = T at b4 hTl ⊢
          have HTT := Lib.hid hTT
          clear hTT
          go_loopw [34] (fun it wr => ∃ k : Nat, k ≤ rn ∧ it = .int .i64 k ∧ Hid (∀ j, j < k → rateErr rates j = 0) ∧ Hid (Below W0.heap.size W0 wr)) (fun it _ => rn - (intOf it).toNat)
          case atStart => exact ⟨0, Nat.zero_le _, rfl, fun j hj => by omega, Below.refl _ _⟩
          case round =>
            obtain ⟨k, hk, rfl, HZ, HB⟩ := hrel
            by_cases hlt : k < rn
            case neg =>
              obtain rfl : k = rn := by omega
              obtain rfl : R = 0 := HC.out.2 HZ.out
              clear HC HZ
              as_aux_lemma =>
                go_wp2_with fail
                go_ret
                exact ⟨rfl, ext_trans HB0.out HB.out⟩
            obtain ⟨b, off, rfl, hb, hc⟩ := HR.out.at (by omega)
            have HCC := Lib.hid hc
            obtain ⟨q0, q1, q2⟩ := hc k hlt
            have c0 := (HB.out.cell (p := ⟨b, off + k * 3, none⟩) hb).trans q0
            have c1 := (HB.out.cell (p := ⟨b, off + k * 3 + 1, none⟩) hb).trans q1
            have c2 := (HB.out.cell (p := ⟨b, off + k * 3 + 2, none⟩) hb).trans q2
            have d4 := (HB.out.cell (p := ⟨T, 4, none⟩) hTl).trans b4
            obtain ⟨hpl, hp1, hp2⟩ := HR.out.each k (by rw [← HLEN.out]; exact hlt)
            have HER : Hid (rateErr rates k = if preB (rates.getD k noRate).p = false then 3
              else if 0 < k ∧ Op.bytesLess (rates.getD (k - 1) noRate).p (rates.getD k noRate).p = false then 7
              else if inB (rates.getD k noRate).price 0 100000000 = false then 1
              else if (rates.getD k noRate).closed = true ∧ (rates.getD k noRate).price ≠ 0 then 3
              else 0) := rfl
            have HSTOP := Lib.hid (HC.out.1 k hlt HZ.out)
            have HNX : Hid (rateErr rates k = 0 → ∀ j, j < k + 1 → rateErr rates j = 0) := fun h j hj => by
              rcases Nat.lt_succ_iff_lt_or_eq.1 hj with h9 | rfl
              · exact HZ.out j h9
              · exact h
            have HPV : Hid (0 < k → W0.cell? ⟨b, off + (k - 1) * 3, none⟩ = some (.string ⟨(rates.getD (k - 1) noRate).p.toArray⟩)) := fun h => (HCC.out (k - 1) (by omega)).1
            clear q0 q1 q2 hc HZ HCC HC
            generalize rateErr rates k = X at HER HSTOP HNX
            generalize rates.getD k noRate = r at c0 c1 c2 hpl hp1 hp2 HER
            generalize rates.getD (k - 1) noRate = q at HER HPV
            obtain ⟨rp, rpr, rcl⟩ := r
            obtain ⟨qp, qpr, qcl⟩ := q
            simp only at c0 c1 c2 hpl hp1 hp2 HER HPV
            as_aux_lemma =>
              go_wp2_with fail
              refine (isPrefix_c rp _ (by omega)).mono ?_
              rintro e w3 ⟨rfl, hb3⟩
              obtain ⟨qc, qf⟩ := bcell hb3
              have hz3 : wr.heap.size < w3.heap.size := by have := hb3.size; simp at this; omega
              have e0 : w3.cell? ⟨wr.heap.size, 0, none⟩ = some (.string ⟨rp.toArray⟩) := (qc _ 0 (by simp)).trans (by go_simp)
              have e1 : w3.cell? ⟨wr.heap.size, 1, none⟩ = some (.int .i64 rpr) := (qc _ 1 (by simp)).trans (by go_simp)
              have e2 : w3.cell? ⟨wr.heap.size, 2, none⟩ = some (.bool rcl) := (qc _ 2 (by simp)).trans (by go_simp)
              have HB3 : Hid (Below W0.heap.size W0 w3) := ext_trans (ext_alloc HB.out) hb3
              have d4 := (HB3.out.cell (p := ⟨T, 4, none⟩) hTl).trans b4
              generalize wr.heap.size = Tr at e0 e1 e2 hz3 ⊢
              clear qc qf hb3 c0 c1 c2
              generalize preB rp = g1 at HER ⊢
              cases g1
              · obtain rfl : X = 3 := by rw [HER.out, if_pos rfl]
                obtain rfl : R = 3 := HSTOP.out (by decide)
                clear HER HSTOP HNX HPV
                skip
                as_aux_lemma =>
                  go_wp2_with fail
                  go_ret
                  exact ⟨rfl, ext_trans HB0.out HB3.out⟩
              have HER1 : Hid (X = if 0 < k ∧ Op.bytesLess qp rp = false then 7
                else if inB rpr 0 100000000 = false then 1
                else if rcl = true ∧ rpr ≠ 0 then 3
                else 0) := by show _ = _; rw [HER.out, if_neg (by decide)]
              clear HER
              by_cases hk0 : k = 0
              · subst hk0
                have HER2 : Hid (X = if inB rpr 0 100000000 = false then 1
                  else if rcl = true ∧ rpr ≠ 0 then 3
                  else 0) := by show _ = _; rw [HER1.out, if_neg (fun h => by omega)]
                clear HER1 HPV
                skip
                as_aux_lemma =>
                  go_wp2_with fail
                  go_quiet (fail)
                  go_wp2_with fail
                  refine (within_c rpr 0 100000000 _).mono ?_
                  rintro e w4 ⟨rfl, rfl⟩
                  generalize inB rpr 0 100000000 = g2 at HER2 ⊢
                  cases g2
                  · obtain rfl : X = 1 := by rw [HER2.out, if_pos rfl]
                    obtain rfl : R = 1 := HSTOP.out (by decide)
                    clear HER2 HSTOP HNX
                    skip
                    as_aux_lemma =>
                      go_wp2_with fail
                      go_ret
                      exact ⟨rfl, ext_trans HB0.out (ext_drewN HB3.out)⟩
                  cases rcl
                  · skip
                    have HZ2 := Lib.hid (HNX.out (by rw [HER2.out, if_neg (by decide), if_neg (by simp)]))
                    clear HER2 HSTOP HNX
                    skip
                    as_aux_lemma =>
                      go_wp2_with fail
                      go_roundw
                      case rel => exact ⟨0 + 1, by omega, by go_num, HZ2.out, ext_drewN HB3.out⟩
                      case measure => simp [intOf]; omega
                  by_cases hp0 : rpr = 0
                  · have hpb : (rpr != 0) = false := by simp [hp0]
                    have HP0 := Lib.hid hp0
                    clear hp0
                    have HZ2 := Lib.hid (HNX.out (by rw [HER2.out, if_neg (by decide), if_neg (fun h => h.2 HP0.out)]))
                    clear HER2 HSTOP HNX
                    skip
                    as_aux_lemma =>
                      go_wp2_with fail
                      go_roundw
                      case rel => exact ⟨0 + 1, by omega, by go_num, HZ2.out, ext_drewN HB3.out⟩
                      case measure => simp [intOf]; omega
                  have hpb : (rpr != 0) = true := by simp [hp0]
                  obtain rfl : X = 3 := by rw [HER2.out, if_neg (by decide), if_pos ⟨rfl, hp0⟩]
                  obtain rfl : R = 3 := HSTOP.out (by decide)
                  clear hp0
                  clear HER2 HSTOP HNX
                  skip
                  as_aux_lemma =>
                    go_wp2_with fail
                    go_ret
                    exact ⟨rfl, ext_trans HB0.out (ext_drewN HB3.out)⟩
              obtain ⟨j, rfl⟩ : ∃ j, k = j + 1 := ⟨k - 1, by omega⟩
              have p0 := HPV.out (by omega)
              rw [Nat.add_sub_cancel] at p0
              have g0 := (HB3.out.cell (p := ⟨b, off + j * 3, none⟩) hb).trans p0
              have w1 : IntKind.i64.wrap (j : Int) = j := IntWalk.i64_in _ (by omega)
              have w2 : IntKind.i64.wrap ((j : Int) + 1 - 1) = j := by rw [Int.add_sub_cancel]; exact w1
              have w3 : (j : Int) < rn := by omega
              have w4 : (0 : Int) ≤ (j : Int) := by omega
              clear HPV p0 hk0
              cases hls : Op.bytesLess qp rp
              · obtain rfl : X = 7 := by rw [HER1.out, if_pos ⟨by omega, hls⟩]
                obtain rfl : R = 7 := HSTOP.out (by decide)
                clear HER1 HSTOP HNX
                by_cases hxe : rp = qp
                · subst hxe
                  skip
                  as_aux_lemma =>
                    go_wp2_with fail
                    go_quiet (fail)
                    go_wp2_with fail
                    go_ret
                    exact ⟨rfl, ext_trans HB0.out (ext_drewN HB3.out)⟩
                · have hx1 : Op.bytesLess rp qp = true := less_total qp rp hls (Ne.symm hxe)
                  skip
                  as_aux_lemma =>
                    go_wp2_with fail
                    go_quiet (fail)
                    go_wp2_with fail
                    go_ret
                    exact ⟨rfl, ext_trans HB0.out (ext_drewN HB3.out)⟩
              have HER2 : Hid (X = if inB rpr 0 100000000 = false then 1
                else if rcl = true ∧ rpr ≠ 0 then 3
                else 0) := by show _ = _; rw [HER1.out, if_neg (fun h => by rw [hls] at h; cases h.2)]
              obtain ⟨hx1, hx2⟩ := less_asym hls
              have hx3 : (rp == qp) = false := beq_eq_false_iff_ne.2 (fun e => hx2 e.symm)
              clear HER1 hx2
              skip
              as_aux_lemma =>
                go_wp2_with fail
                go_quiet (fail)
                go_wp2_with fail
                refine (within_c rpr 0 100000000 _).mono ?_
                rintro e w4 ⟨rfl, rfl⟩
                generalize inB rpr 0 100000000 = g2 at HER2 ⊢
                cases g2
                · obtain rfl : X = 1 := by rw [HER2.out, if_pos rfl]
                  obtain rfl : R = 1 := HSTOP.out (by decide)
                  clear HER2 HSTOP HNX
                  skip
                  as_aux_lemma =>
                    go_wp2_with fail
                    go_ret
                    exact ⟨rfl, ext_trans HB0.out (ext_drewN HB3.out)⟩
                cases rcl
                · skip
                  have HZ2 := Lib.hid (HNX.out (by rw [HER2.out, if_neg (by decide), if_neg (by simp)]))
                  clear HER2 HSTOP HNX
                  skip
                  as_aux_lemma =>
                    go_wp2_with fail
                    go_roundw
                    case rel => exact ⟨j + 1 + 1, by omega, by go_num, HZ2.out, ext_drewN HB3.out⟩
                    case measure => simp [intOf]; omega
                by_cases hp0 : rpr = 0
                · have hpb : (rpr != 0) = false := by simp [hp0]
                  have HP0 := Lib.hid hp0
                  clear hp0
                  have HZ2 := Lib.hid (HNX.out (by rw [HER2.out, if_neg (by decide), if_neg (fun h => h.2 HP0.out)]))
                  clear HER2 HSTOP HNX
                  skip
                  as_aux_lemma =>
                    go_wp2_with fail
                    go_roundw
                    case rel => exact ⟨j + 1 + 1, by omega, by go_num, HZ2.out, ext_drewN HB3.out⟩
                    case measure => simp [intOf]; omega
                have hpb : (rpr != 0) = true := by simp [hp0]
                obtain rfl : X = 3 := by rw [HER2.out, if_neg (by decide), if_pos ⟨rfl, hp0⟩]
                obtain rfl : R = 3 := HSTOP.out (by decide)
                clear hp0
                clear HER2 HSTOP HNX
                skip
                as_aux_lemma =>
                  go_wp2_with fail
                  go_ret
                  exact ⟨rfl, ext_trans HB0.out (ext_drewN HB3.out)⟩
end Go.Proofs.YtppinnjdaoaddaaGreatDoor

set_option linter.unusedVariables false
set_option linter.unusedSimpArgs false
namespace Go.Proofs.YtppinnjdaoaddaaGreatDoor
open Go.RowKit

/-- The rates are in order, each before the next. -/
def RSorted (cs : List Rate) : Prop := ∀ i, 0 < i → i < cs.length → Op.bytesLess (cs.getD (i - 1) noRate).p (cs.getD i noRate).p = true
theorem RSorted.lt {cs : List Rate} (h : RSorted cs) : ∀ (i d : Nat), i + (d + 1) < cs.length → Op.bytesLess (cs.getD i noRate).p (cs.getD (i + (d + 1)) noRate).p = true
  | i, 0, hi => h (i + 1) (by omega) hi
  | i, d + 1, hi => by
    have h1 := RSorted.lt h i d (by omega)
    have h2 := h (i + (d + 1) + 1) (by omega) (by omega)
    exact less_trans h1 h2
theorem RSorted.lt' {cs : List Rate} (h : RSorted cs) {i j : Nat} (hij : i < j) (hj : j < cs.length) : Op.bytesLess (cs.getD i noRate).p (cs.getD j noRate).p = true := by
  have := h.lt i (j - i - 1) (by omega)
  rwa [show i + (j - i - 1 + 1) = j by omega] at this
def rcmp (cs : List Rate) (t : List UInt8) (i : Nat) : Int := Lib.compareBytes (cs.getD i noRate).p t
theorem rcmp_mono {cs : List Rate} (h : RSorted cs) {t : List UInt8} {i j : Nat} (hij : i ≤ j) (hj : j < cs.length) (hc : rcmp cs t j < 0) : rcmp cs t i < 0 := by
  rcases Nat.lt_or_eq_of_le hij with h' | rfl
  · unfold rcmp at hc ⊢
    rw [cmp_neg] at hc ⊢
    exact less_trans (h.lt' h' hj) hc
  · exact hc
def findR (cs : List Rate) (t : List UInt8) : Option Rate := cs.find? (fun c => c.p == t)
theorem findR_hit {cs : List Rate} (h : RSorted cs) {t : List UInt8} {i : Nat} (hi : i < cs.length) (hc : rcmp cs t i = 0) : findR cs t = some (cs.getD i noRate) := by
  unfold rcmp at hc
  rw [cmp_zero] at hc
  unfold findR
  rw [List.find?_eq_some_iff_getElem]
  have e : cs.getD i noRate = cs[i] := by simp [List.getD_eq_getElem?_getD, List.getElem?_eq_getElem hi]
  refine ⟨by simpa using hc, i, hi, e.symm, fun j hj => ?_⟩
  have e2 : cs.getD j noRate = cs[j] := by simp [List.getD_eq_getElem?_getD, List.getElem?_eq_getElem (Nat.lt_trans hj hi)]
  have := h.lt' hj hi
  rw [hc, e2] at this
  simp only [Bool.not_eq_true', beq_eq_false_iff_ne]
  intro e3
  rw [e3, less_irrefl] at this
  cases this
theorem findR_miss {cs : List Rate} (h : RSorted cs) {t : List UInt8} {i : Nat} (hi : i ≤ cs.length) (h1 : ∀ m, m < i → rcmp cs t m < 0) (h2 : ∀ m, i ≤ m → m < cs.length → ¬ rcmp cs t m < 0) (h3 : i < cs.length → rcmp cs t i ≠ 0) : findR cs t = none := by
  unfold findR
  rw [List.find?_eq_none]
  intro c hc hp
  obtain ⟨j, hj, rfl⟩ := List.getElem_of_mem hc
  have e : cs.getD j noRate = cs[j] := by simp [List.getD_eq_getElem?_getD, List.getElem?_eq_getElem hj]
  have hp' : cs[j].p = t := by simpa using hp
  have hz : rcmp cs t j = 0 := by unfold rcmp; rw [cmp_zero, e]; exact hp'
  by_cases hji : j < i
  · have := h1 j hji; omega
  · by_cases hje : j = i
    · subst hje; exact h3 hj hz
    · have hlt : i < j := by omega
      have := h2 i (Nat.le_refl _) (by omega)
      apply this
      unfold rcmp
      rw [cmp_neg]
      have hl := h.lt' hlt hj
      rw [e, hp'] at hl
      exact hl
theorem rate1_any (p t : List UInt8) (a : Int) (b : Bool) (w : World) :
    Calls Tryz.prog 167 #[.agg #[.string ⟨p.toArray⟩, .int .i64 a, .bool b], .string ⟨t.toArray⟩] w fun e w' => e = .returned (.int .i64 (Lib.compareBytes p t)) ∧ Below w.heap.size w w' := by
  have hcon := fun w => Tryz.strings_Compare ⟨p.toArray⟩ ⟨t.toArray⟩ w
  change ∀ w, Calls _ _ _ w fun e w' => e = .returned (.int .i64 (Lib.compareBytes p t)) ∧ w' = w at hcon
  generalize Lib.compareBytes p t = r at hcon ⊢
  go_enter Tryz.func167, Tryz.ntmps167
  go_wp2_with (go_at_call 83; refine (hcon _).mono ?_; rintro e w' ⟨rfl, rfl⟩)
  go_ret
  exact ⟨rfl, (by (try show Below _ _ _); repeat (with_reducible first | exact Below.refl _ _ | assumption | exact Hid.out (by assumption) | refine ext_alloc ?_ | refine ext_drewN ?_ | refine ext_drew ?_ | refine ext_setCell ?_ (Nat.le_refl _) | refine ext_setCell ?_ (Nat.le_succ _) | refine ext_trans ?_ (by assumption) | (refine ext_setCell ?_ (by simp)) | (refine ext_setCell ?_ (by simp at *; omega))))⟩
/-- What the search comes to. -/
def RFound (cs : List Rate) (t : List UInt8) (n : Nat) (w : World) (e : Ending) (w' : World) : Prop :=
  Below w.heap.size w w' ∧ ((∃ i, i < n ∧ e = .returned (.tuple #[.int .i64 (i : Nat), .bool true]) ∧ findR cs t = some (cs.getD i noRate)) ∨ ∃ i : Int, e = .returned (.tuple #[.int .i64 i, .bool false]) ∧ findR cs t = none)

set_option maxHeartbeats 1000000 in
theorem searchR_any (w : World) (a : Option Addr) (n cap : Nat) (cs : List Rate) (t : List UInt8) (hr : RateRow w a n cs) (ho : RSorted cs) :
    Calls Tryz.prog 166 #[.slice a n cap, .string ⟨t.toArray⟩, .func (.func 167) #[] #[]] w (RFound cs t n w) := by
  have Hn := Lib.hid hr.len
  have hn2 := hr.few
  have Hr := Lib.hid hr
  have Ho := Lib.hid ho
  clear hr ho
  go_enter Tryz.func166, Tryz.ntmps166
  go_wp2_with fail
  go_loopw [9, 10] (fun s9 s10 wr => ∃ i j : Nat, i ≤ j ∧ j ≤ n ∧ s9 = .int .i64 i ∧ s10 = .int .i64 j ∧ Hid (Below w.heap.size w wr) ∧ Hid (∀ m, m < i → rcmp cs t m < 0) ∧ Hid (∀ m, j ≤ m → m < n → 0 ≤ rcmp cs t m)) (fun s9 s10 _ => (intOf s10).toNat - (intOf s9).toNat)
  case atStart => exact ⟨0, n, Nat.zero_le _, Nat.le_refl _, rfl, rfl, Below.refl _ _, fun m hm => absurd hm (by omega), fun m h1 h2 => absurd h1 (by omega)⟩
  case round =>
    obtain ⟨i, j, hij, hjn, rfl, rfl, HB, HL, HU⟩ := hrel
    by_cases hlt : i < j
    · obtain ⟨b, off, rfl, hb, hc⟩ := Hr.out.at (by omega)
      obtain ⟨q0, q1, q2⟩ := hc ((i + j) / 2) (by omega)
      have c0 := (HB.out.cell (p := ⟨b, off + ((i + j) / 2) * 3, none⟩) hb).trans q0
      have c1 := (HB.out.cell (p := ⟨b, off + ((i + j) / 2) * 3 + 1, none⟩) hb).trans q1
      have c2 := (HB.out.cell (p := ⟨b, off + ((i + j) / 2) * 3 + 2, none⟩) hb).trans q2
      have hcmp : Hid (rcmp cs t ((i + j) / 2) = Lib.compareBytes (cs.getD ((i + j) / 2) noRate).p t) := rfl
      clear hc Hr q0 q1 q2
      generalize cs.getD ((i + j) / 2) noRate = cl at c0 c1 c2 hcmp
      go_wp2_with fail
      refine (rate1_any _ _ _ _ _).mono ?_
      rintro e w1 ⟨rfl, hB1⟩
      generalize Lib.compareBytes cl.p t = r at hcmp
      by_cases hr0 : r < 0
      · go_wp2_with fail
        go_roundw
        case rel => exact ⟨(i + j) / 2 + 1, j, by omega, hjn, by go_num, rfl, ext_trans HB.out hB1, fun m hm => rcmp_mono Ho.out (j := (i + j) / 2) (by omega) (by rw [← Hn.out]; omega) (by rw [hcmp.out]; exact hr0), HU⟩
        case measure => simp [intOf]; omega
      · go_wp2_with fail
        go_roundw
        case rel => exact ⟨i, (i + j) / 2, by omega, by omega, rfl, by go_num, ext_trans HB.out hB1, HL, fun m h1 h2 => Int.not_lt.1 (fun hm => absurd (show r < 0 by rw [← hcmp.out]; exact rcmp_mono Ho.out h1 (by rw [← Hn.out]; exact h2) hm) (by omega))⟩
        case measure => simp [intOf]; omega
    · obtain rfl : i = j := by omega
      by_cases hin : i < n
      · obtain ⟨b, off, rfl, hb, hc⟩ := Hr.out.at (by omega)
        obtain ⟨q0, q1, q2⟩ := hc i hin
        have c0 := (HB.out.cell (p := ⟨b, off + i * 3, none⟩) hb).trans q0
        have c1 := (HB.out.cell (p := ⟨b, off + i * 3 + 1, none⟩) hb).trans q1
        have c2 := (HB.out.cell (p := ⟨b, off + i * 3 + 2, none⟩) hb).trans q2
        have hcmp : Hid (rcmp cs t i = Lib.compareBytes (cs.getD i noRate).p t) := rfl
        have hin2 : (i : Int) < (n : Int) := by omega
        clear hc Hr q0 q1 q2
        generalize hcl : cs.getD i noRate = cl at c0 c1 c2 hcmp
        have Hcl := Lib.hid hcl
        clear hcl
        go_wp2_with fail
        refine (rate1_any _ _ _ _ _).mono ?_
        rintro e w1 ⟨rfl, hB1⟩
        generalize Lib.compareBytes cl.p t = r at hcmp
        by_cases hr0 : r = 0
        · subst hr0
          go_wp2_with fail
          go_ret2
          exact ⟨ext_trans HB.out hB1, Or.inl ⟨i, hin, rfl, findR_hit Ho.out (by rw [← Hn.out]; exact hin) hcmp.out⟩⟩
        · have hr1 : (r == 0) = false := by simpa using hr0
          go_wp2_with fail
          go_ret2
          exact ⟨ext_trans HB.out hB1, Or.inr ⟨_, rfl, findR_miss Ho.out (by rw [← Hn.out]; omega) HL.out (by rw [← Hn.out]; exact fun m h1 h2 => Int.not_lt.2 (HU.out m h1 h2)) (fun _ => by rw [hcmp.out]; exact hr0)⟩⟩
      · have hin2 : ¬ (i : Int) < (n : Int) := by omega
        go_wp2_with fail
        go_ret2
        exact ⟨HB.out, Or.inr ⟨_, rfl, findR_miss Ho.out (by rw [← Hn.out]; omega) HL.out (by rw [← Hn.out]; exact fun m h1 h2 => Int.not_lt.2 (HU.out m h1 h2)) (fun h => absurd h (by rw [← Hn.out]; omega))⟩⟩
def RFoundP (cs : List Rate) (t : List UInt8) (n : Nat) (i : Int) (f : Bool) : Prop := (f = true → ∃ m : Nat, m < n ∧ i = m ∧ findR cs t = some (cs.getD m noRate)) ∧ (f = false → findR cs t = none)
def RFound2 (cs : List Rate) (t : List UInt8) (n : Nat) (w : World) (e : Ending) (w' : World) : Prop :=
  ∃ (i : Int) (f : Bool), e = .returned (.tuple #[.int .i64 i, .bool f]) ∧ Below w.heap.size w w' ∧ RFoundP cs t n i f
theorem searchR_str (w : World) (a : Option Addr) (n cap : Nat) (cs : List Rate) (t : List UInt8) (s : ByteArray) (hs : s.data.toList = t) (hr : RateRow w a n cs) (ho : RSorted cs) :
    Calls Tryz.prog 166 #[.slice a n cap, .string s, .func (.func 167) #[] #[]] w (RFound2 cs t n w) := by
  have h := searchR_any w a n cap cs t hr ho
  have e : (⟨t.toArray⟩ : ByteArray) = s := by rw [← hs]
  rw [e] at h
  refine h.mono ?_
  rintro e w' ⟨hb, ⟨i, hi, rfl, hf⟩ | ⟨i, rfl, hf⟩⟩
  · exact ⟨_, _, rfl, hb, (fun _ => ⟨i, hi, rfl, hf⟩), (fun h => by cases h)⟩
  · exact ⟨_, _, rfl, hb, (fun h => by cases h), fun _ => hf⟩
theorem extractR_take (l : List UInt8) (k : Nat) : ((⟨l.toArray⟩ : ByteArray).extract 0 k).data.toList = l.take k := by
  simp [ByteArray.extract, ByteArray.copySlice]
/-- The rate of digits: that of the longest of their beginnings of at most k bytes. -/
def rateTo (cs : List Rate) (l : List UInt8) : Nat → Option Rate
  | 0 => findR cs (l.take 0)
  | k + 1 => (findR cs (l.take (k + 1))).or (rateTo cs l k)
def rateOf (cs : List Rate) (l : List UInt8) (m : Nat) : Option Rate := rateTo cs l (min l.length m)
def RatePost (o : Option Rate) (w : World) (e : Ending) (w' : World) : Prop :=
  Below w.heap.size w w' ∧ e = .returned (.tuple #[.agg #[.string ⟨(o.getD noRate).p.toArray⟩, .int .i64 (o.getD noRate).price, .bool (o.getD noRate).closed], .bool o.isSome])

set_option maxRecDepth 100000 in
set_option maxHeartbeats 4000000 in
theorem rate_any (w : World) (df ds dl dp : Int) (ra : Option Addr) (rn rc : Nat) (cs : List Rate) (l : List UInt8) (m : Nat) (hr : RateRow w ra rn cs) (ho : RSorted cs) (hl : l.length ≤ 1000) (hm : m ≤ 1000) :
    Calls Tryz.prog 131 #[.agg #[.int .i64 df, .int .i64 ds, .int .i64 dl, .int .i64 dp, .slice ra rn rc], .string ⟨l.toArray⟩, .int .i64 m] w (RatePost (rateOf cs l m) w) := by
  have Hr := Lib.hid hr
  have Ho := Lib.hid ho
  clear hr ho
  go_enter Tryz.func131, Tryz.ntmps131
  have HD0 : Hid (Blk ((w.alloc (.cells #[.int .i64 df, .int .i64 ds, .int .i64 dl, .int .i64 dp, .slice ra rn rc] 63)).alloc (.cells #[.string ⟨#[]⟩, .int .i64 0, .bool false] 120)) w.heap.size [.int .i64 df, .int .i64 ds, .int .i64 dl, .int .i64 dp, .slice ra rn rc] 63) := (Blk.new w [.int .i64 df, .int .i64 ds, .int .i64 dl, .int .i64 dp, .slice ra rn rc] 63).alloc _
  have HZ0 : Hid (Blk ((w.alloc (.cells #[.int .i64 df, .int .i64 ds, .int .i64 dl, .int .i64 dp, .slice ra rn rc] 63)).alloc (.cells #[.string ⟨#[]⟩, .int .i64 0, .bool false] 120)) (w.heap.size + 1) [.string ⟨#[]⟩, .int .i64 0, .bool false] 120) := by
    have := Blk.new (w.alloc (.cells #[.int .i64 df, .int .i64 ds, .int .i64 dl, .int .i64 dp, .slice ra rn rc] 63)) [.string ⟨#[]⟩, .int .i64 0, .bool false] 120
    show Blk _ _ _ _
    simpa using this
  have HB0 : Hid (Below w.heap.size w ((w.alloc (.cells #[.int .i64 df, .int .i64 ds, .int .i64 dl, .int .i64 dp, .slice ra rn rc] 63)).alloc (.cells #[.string ⟨#[]⟩, .int .i64 0, .bool false] 120))) := ext_alloc (ext_alloc (Below.refl _ _))
  go_wp2_with fail
  go_loopw [8] (fun s8 wr => ∃ k : Nat, k ≤ min l.length m + 1 ∧ s8 = .int .i64 ((k : Int) - 1) ∧ Hid (Blk wr w.heap.size [.int .i64 df, .int .i64 ds, .int .i64 dl, .int .i64 dp, .slice ra rn rc] 63) ∧ Hid (Blk wr (w.heap.size + 1) [.string ⟨#[]⟩, .int .i64 0, .bool false] 120) ∧ Hid (Below w.heap.size w wr) ∧ Hid (rateOf cs l m = match k with | 0 => none | q + 1 => rateTo cs l q)) (fun s8 _ => ((intOf s8) + 1).toNat)
  case atStart => exact ⟨min l.length m + 1, Nat.le_refl _, by congr 1; omega, HD0.out, HZ0.out, HB0.out, rfl⟩
  case round =>
    clear HD0 HZ0 HB0
    obtain ⟨k, hk, rfl, HD, HZ, HB, HC⟩ := hrel
    have d4 := HD.out.cell 4 rfl
    have z0 := HZ.out.cell 0 rfl
    have z1 := HZ.out.cell 1 rfl
    have z2 := HZ.out.cell 2 rfl
    have zf := HZ.out.fr
    cases k with
    | zero =>
      go_wp2_with fail
      refine bodyPost_ret (v := .tuple #[.agg #[.string ⟨#[]⟩, .int .i64 0, .bool false], .bool false]) (by simp [results, Tryz.results131, go_sem, z0, z1, z2]) rfl ⟨?_, ?_⟩
      · exact (by (try show Below _ _ _); repeat (with_reducible first | exact Below.refl _ _ | assumption | exact Hid.out (by assumption) | refine ext_alloc ?_ | refine ext_drewN ?_ | refine ext_drew ?_ | refine ext_setCell ?_ (Nat.le_refl _) | refine ext_setCell ?_ (Nat.le_succ _) | refine ext_trans ?_ (by assumption) | (refine ext_setCell ?_ (by simp)) | (refine ext_setCell ?_ (by simp at *; omega))))
      · rw [HC.out]; rfl
    | succ k =>
      have hk1 : ((k + 1 : Nat) : Int) - 1 = (k : Int) := by omega
      rw [hk1]
      clear hk1
      have kl : (k : Int) ≤ (l.length : Int) := by omega
      have kl2 : k ≤ l.length := by omega
      go_wp2_with fail
      go_region_with (go_at_call 166; refine (searchR_str _ ra rn rc cs (l.take k) _ (extractR_take l k) ?hx Ho.out).mono ?_; exact Hr.out.below (ext_drew HB.out); rintro e w1 ⟨i, f, rfl, hB1, hfp⟩)
      have hw1 : Below w.heap.size w w1 := ext_trans (ext_drew HB.out) hB1
      have HB1 := Lib.hid hw1
      have HX : Below wr.heap.size wr w1 := ext_trans (ext_drew (Below.refl _ _)) hB1
      have HD1 := Lib.hid (HD.out.below HX)
      have HZ1 := Lib.hid (HZ.out.below HX)
      clear HX HD HZ HB d4 z0 z1 z2 zf hB1
      cases f with
      | false =>
        have hnone := hfp.2 rfl
        clear hfp hw1
        go_wp2_with fail
        go_roundw
        case rel => exact ⟨k, by omega, rfl, HD1.out, HZ1.out, HB1.out, by
          show rateOf cs l m = _
          rw [HC.out]
          cases k with
          | zero => exact hnone
          | succ m => show (findR cs (l.take (m + 1))).or (rateTo cs l m) = _; rw [hnone]; rfl⟩
        case measure => simp [intOf]
      | true =>
        obtain ⟨q, hq, rfl, hsome⟩ := hfp.1 rfl
        have hrow := Hr.out.below hw1
        have hfin : Hid (rateOf cs l m = some (cs.getD q noRate)) := by
          show rateOf cs l m = _
          rw [HC.out]
          cases k with
          | zero => exact hsome
          | succ q => show (findR cs (l.take (q + 1))).or (rateTo cs l q) = _; rw [hsome]; rfl
        clear hsome hfp
        obtain ⟨b, off, rfl, hb, hc⟩ := hrow.at (by omega)
        obtain ⟨c0, c1, c2⟩ := hc q hq
        clear hc hrow hw1
        have d4 := HD1.out.cell 4 rfl
        have z0 := HZ1.out.cell 0 rfl
        have z1 := HZ1.out.cell 1 rfl
        have z2 := HZ1.out.cell 2 rfl
        have zf := HZ1.out.fr
        generalize cs.getD q noRate = cl at c0 c1 c2 hfin
        go_wp2_with fail
        refine bodyPost_ret (v := .tuple #[.agg #[.string ⟨cl.p.toArray⟩, .int .i64 cl.price, .bool cl.closed], .bool true]) (by simp [results, Tryz.results131, go_sem, z0, z1, z2]) rfl ⟨?_, ?_⟩
        · have HB1 := HB1.out; exact (by (try show Below _ _ _); repeat (with_reducible first | exact Below.refl _ _ | assumption | exact Hid.out (by assumption) | refine ext_alloc ?_ | refine ext_drewN ?_ | refine ext_drew ?_ | refine ext_setCell ?_ (Nat.le_refl _) | refine ext_setCell ?_ (Nat.le_succ _) | refine ext_trans ?_ (by assumption) | (refine ext_setCell ?_ (by simp)) | (refine ext_setCell ?_ (by simp at *; omega))))
        · rw [hfin.out]; rfl
end Go.Proofs.YtppinnjdaoaddaaGreatDoor

set_option linter.unusedVariables false
set_option linter.unusedSimpArgs false
namespace Go.Proofs.YtppinnjdaoaddaaGreatDoor
open Go.RowKit

theorem Tryz.infoQual : (Tryz.prog.info? 56).map (fun i => (i.zero, i.size, i.bytes)) = some (some (.agg #[.string ⟨#[]⟩, .int .i64 0, .int .i64 0, .int .i64 0, .int .i64 0]), 5, 48) := by kernel_rfl
def MeasPost (l : List Carr) (rs : List Rcd) (f t : Int) (w : World) (e : Ending) (w' : World) : Prop :=
  ∃ v qs, e = .returned (.tuple #[v, .int .i64 (measE l rs f t)]) ∧ qs = (if measE l rs f t = 0 then quals l rs f t l.length else []) ∧ w'.ownsRow w.heap.size 56 5 v qs.length ((qs.map Qual.cells).flatten) ∧ Below w.heap.size w w'
theorem meas_bad {l : List Carr} {rs : List Rcd} {f t : Int} {w w' : World} {E : Int} (h : measE l rs f t = E) (hE : E ≠ 0) (hb : Below w.heap.size w w') : MeasPost l rs f t w (.returned (.tuple #[.slice none 0 0, .int .i64 E])) w' :=
  ⟨_, [], by rw [h], by rw [h, if_neg hE], World.ownsRow_nil _ _ _ _, hb⟩
theorem meas_ok {l : List Carr} {rs : List Rcd} {f t : Int} {w w' : World} {v : Value} {qs : List Qual} (h : measE l rs f t = 0) (hq : qs = quals l rs f t l.length) (ho : w'.ownsRow w.heap.size 56 5 v qs.length ((qs.map Qual.cells).flatten)) (hb : Below w.heap.size w w') : MeasPost l rs f t w (.returned (.tuple #[v, .int .i64 0])) w' :=
  ⟨v, qs, by rw [h], by rw [h, if_pos rfl, hq], ho, hb⟩
theorem rec_zero {l : List Carr} {rs : List Rcd} {k : Nat} (h : recErr l rs k = 0) : 0 ≤ (rs.getD k noRcd).talk ∧ (rs.getD k noRcd).talk ≤ 86400000 := by
  have : inB (rs.getD k noRcd).talk 0 86400000 = true := by
    cases h9 : inB (rs.getD k noRcd).talk 0 86400000 with
    | true => rfl
    | false => unfold recErr at h; rw [if_pos (Or.inr h9)] at h; cases h
  unfold inB at this
  simpa using this
theorem recs_zero {l : List Carr} {rs : List Rcd} {f t : Int} (hl : rs.length ≤ 3000) (h : recsErr l rs f t = 0) : (∀ i, i < rs.length → 0 ≤ (rs.getD i noRcd).talk ∧ (rs.getD i noRcd).talk ≤ 86400000) ∧ 0 ≤ f ∧ f ≤ t ∧ t ≤ 345686400000 := by
  unfold recsErr at h
  rw [if_neg (by omega)] at h
  by_cases h0 : firstErr (recErr l rs) rs.length = 0
  · rw [if_neg (by simp [h0])] at h
    refine ⟨fun i hi => rec_zero (first_zero h0 i hi), ?_⟩
    unfold winErr at h
    split at h
    · assumption
    · cases h
  · rw [if_pos h0] at h; exact absurd h h0
theorem quals_len (l : List Carr) (rs : List Rcd) (f t : Int) (k : Nat) : (quals l rs f t k).length ≤ k := by
  unfold quals
  exact Nat.le_trans (List.length_filterMap_le _ _) (by simp)
theorem cnt_succ (rs : List Rcd) (key : List UInt8) (f t : Int) (k : Nat) :
    (((rs.getD k noRcd).carrier = key ∧ f ≤ (rs.getD k noRcd).at_ ∧ (rs.getD k noRcd).at_ < t) → (rs.getD k noRcd).how = 1 → cntTo rs key f t (k + 1) = ⟨(cntTo rs key f t k).calls + 1, (cntTo rs key f t k).good + 1, (cntTo rs key f t k).talk + (rs.getD k noRcd).talk⟩) ∧
    (((rs.getD k noRcd).carrier = key ∧ f ≤ (rs.getD k noRcd).at_ ∧ (rs.getD k noRcd).at_ < t) → (rs.getD k noRcd).how ≠ 1 → cntTo rs key f t (k + 1) = ⟨(cntTo rs key f t k).calls + 1, (cntTo rs key f t k).good, (cntTo rs key f t k).talk⟩) ∧
    (¬ ((rs.getD k noRcd).carrier = key ∧ f ≤ (rs.getD k noRcd).at_ ∧ (rs.getD k noRcd).at_ < t) → cntTo rs key f t (k + 1) = ⟨(cntTo rs key f t k).calls, (cntTo rs key f t k).good, (cntTo rs key f t k).talk⟩) := by
  have e : cntTo rs key f t (k + 1) = if inWin key f t (rs.getD k noRcd) then (if (rs.getD k noRcd).how = 1 then ⟨(cntTo rs key f t k).calls + 1, (cntTo rs key f t k).good + 1, (cntTo rs key f t k).talk + (rs.getD k noRcd).talk⟩ else ⟨(cntTo rs key f t k).calls + 1, (cntTo rs key f t k).good, (cntTo rs key f t k).talk⟩) else cntTo rs key f t k := rfl
  rw [e]
  have i : inWin key f t (rs.getD k noRcd) ↔ ((rs.getD k noRcd).carrier = key ∧ f ≤ (rs.getD k noRcd).at_ ∧ (rs.getD k noRcd).at_ < t) := Iff.rfl
  exact ⟨fun h1 h2 => by rw [if_pos (i.2 h1), if_pos h2], fun h1 h2 => by rw [if_pos (i.2 h1), if_neg h2], fun h1 => by rw [if_neg (fun h => h1 (i.1 h))]⟩
theorem qcells_snoc (l : List Qual) (q : Qual) : ((l ++ [q]).map Qual.cells).flatten = (l.map Qual.cells).flatten ++ Qual.cells q := by simp
theorem wp_val {P : Program} {o : Oper} {a : Act} {w w' : World} {v : Value} {K : Act → World → Prop} {Q : Exit → Act → World → Prop} (h : (execOp a.eval o).run P w = .ok (.value v) w') (hk : K (a.put o.dst v) w') : o.wp P a w K Q := by
  unfold Oper.wp
  rw [h]
  exact hk
theorem bs_q1 (e : Operand → Value) (o : Oper) (w : World) (i0 : Nat) (p : ByteArray) (z1 z2 z3 z4 : Int) (ho : o.op = .buildSlice 47 1 #[(0, .tmp i0)]) (h0 : e (.tmp i0) = .agg #[.string p, .int .i64 z1, .int .i64 z2, .int .i64 z3, .int .i64 z4]) :
   (execOp e o).run Tryz.prog w = .ok (.value (.slice (some ⟨w.heap.size, 0, none⟩) 1 1)) (w.alloc (.cells #[.string p, .int .i64 z1, .int .i64 z2, .int .i64 z3, .int .i64 z4] 56)) := by
  unfold execOp
  rw [ho]
  simp only [List.map_toArray, List.map_cons, List.map_nil, h0]
  kernel_rfl
end Go.Proofs.YtppinnjdaoaddaaGreatDoor

set_option linter.unusedVariables false
set_option linter.unusedSimpArgs false
namespace Go.Proofs.YtppinnjdaoaddaaGreatDoor
open Go.RowKit

theorem Tryz.deckSz : (Tryz.prog.info? 63).map (·.size) = some 5 := by kernel_rfl
theorem Tryz.rateSz : (Tryz.prog.info? 120).map (·.size) = some 3 := by kernel_rfl
/-- What a call by a rate costs. -/
def paidR (dl dp talk : Int) : Int := if dl < talk then dl + (talk - dl + dp - 1) / dp * dp else dl
def priceR (ds dl dp pr talk : Int) : Int := if talk = 0 then ds else ds + (pr * paidR dl dp talk + 59999) / 60000
theorem paid_bound {dl dp talk : Int} (h2 : 0 ≤ dl ∧ dl ≤ 86400000) (h3 : 1 ≤ dp ∧ dp ≤ 86400000) (h5 : 0 ≤ talk ∧ talk ≤ 86400000) : 0 ≤ paidR dl dp talk ∧ paidR dl dp talk ≤ 200000000 := by
  unfold paidR
  split
  · rename_i h
    have q1 := Int.ediv_mul_le (talk - dl + dp - 1) (show dp ≠ 0 by omega)
    have q2 : 0 ≤ (talk - dl + dp - 1) / dp * dp := Int.mul_nonneg (Int.ediv_nonneg (by omega) (by omega)) (by omega)
    omega
  · omega

set_option maxRecDepth 100000 in
set_option maxHeartbeats 2000000 in
theorem priceC_any (w : World) (df ds dl dp : Int) (ra : Option Addr) (rn rc : Nat) (p : List UInt8) (pr : Int) (cl : Bool) (talk : Int) (h1 : 0 ≤ ds ∧ ds ≤ 100000000) (h2 : 0 ≤ dl ∧ dl ≤ 86400000) (h3 : 1 ≤ dp ∧ dp ≤ 86400000) (h4 : 0 ≤ pr ∧ pr ≤ 100000000) (h5 : 0 ≤ talk ∧ talk ≤ 86400000) :
    Calls Tryz.prog 132 #[.agg #[.int .i64 df, .int .i64 ds, .int .i64 dl, .int .i64 dp, .slice ra rn rc], .agg #[.string ⟨p.toArray⟩, .int .i64 pr, .bool cl], .int .i64 talk] w fun e w' => e = .returned (.int .i64 (priceR ds dl dp pr talk)) ∧ Below w.heap.size w w' := by
  have hd : Hid (priceR ds dl dp pr talk = if talk = 0 then ds else ds + (pr * paidR dl dp talk + 59999) / 60000) := rfl
  have hp : Hid (paidR dl dp talk = if dl < talk then dl + (talk - dl + dp - 1) / dp * dp else dl) := rfl
  have hpb := paid_bound h2 h3 h5
  have q0 : 0 ≤ (talk - dl + dp - 1) / dp * dp ∨ ¬ dl < talk := by
    by_cases h : dl < talk
    · exact Or.inl (Int.mul_nonneg (Int.ediv_nonneg (by omega) (by omega)) (by omega))
    · exact Or.inr h
  have q1 := Int.ediv_mul_le (talk - dl + dp - 1) (show dp ≠ 0 by omega)
  generalize priceR ds dl dp pr talk = R at hd ⊢
  generalize paidR dl dp talk = M at hd hp hpb
  go_enter Tryz.func132, Tryz.ntmps132
  go_upto_region 1 with (fail)
  have HD : Hid (Blk ((w.alloc (.cells #[.int .i64 df, .int .i64 ds, .int .i64 dl, .int .i64 dp, .slice ra rn rc] 63)).alloc (.cells #[.string ⟨p.toArray⟩, .int .i64 pr, .bool cl] 120)) w.heap.size [.int .i64 df, .int .i64 ds, .int .i64 dl, .int .i64 dp, .slice ra rn rc] 63) := (Blk.new w [.int .i64 df, .int .i64 ds, .int .i64 dl, .int .i64 dp, .slice ra rn rc] 63).alloc _
  have HZ : Hid (Blk ((w.alloc (.cells #[.int .i64 df, .int .i64 ds, .int .i64 dl, .int .i64 dp, .slice ra rn rc] 63)).alloc (.cells #[.string ⟨p.toArray⟩, .int .i64 pr, .bool cl] 120)) (w.heap.size + 1) [.string ⟨p.toArray⟩, .int .i64 pr, .bool cl] 120) := by
    have := Blk.new (w.alloc (.cells #[.int .i64 df, .int .i64 ds, .int .i64 dl, .int .i64 dp, .slice ra rn rc] 63)) [.string ⟨p.toArray⟩, .int .i64 pr, .bool cl] 120
    show Blk _ _ _ _
    simpa using this
  have HB : Hid (Below w.heap.size w ((w.alloc (.cells #[.int .i64 df, .int .i64 ds, .int .i64 dl, .int .i64 dp, .slice ra rn rc] 63)).alloc (.cells #[.string ⟨p.toArray⟩, .int .i64 pr, .bool cl] 120))) := ext_alloc (ext_alloc (Below.refl _ _))
  generalize World.alloc (World.alloc w _) _ = W at HD HZ HB ⊢
  have k1 := HD.out.cell 1 rfl
  have k2 := HD.out.cell 2 rfl
  have k3 := HD.out.cell 3 rfl
  have k4 := HZ.out.cell 1 rfl
  clear HD HZ
  by_cases ht : talk = 0
  · have ht2 : (talk == 0) = true := by simpa using ht
    have hR : Hid (R = ds) := by show R = ds; rw [hd.out, if_pos ht]
    clear hd hp hpb q0 q1 h5 ht
    as_aux_lemma =>
      go_wp2_with fail
      go_ret
      exact ⟨by rw [hR.out]; rfl, HB.out⟩
  · have ht2 : (talk == 0) = false := by simpa using ht
    have hR : Hid (R = ds + (pr * M + 59999) / 60000) := by show R = _; rw [hd.out, if_neg ht]
    have m0 : 0 ≤ pr * M := Int.mul_nonneg h4.1 hpb.1
    have m1 : pr * M ≤ 100000000 * 200000000 := Int.mul_le_mul h4.2 hpb.2 hpb.1 (by omega)
    have v1 : IntKind.i64.wrap (pr * M) = pr * M := IntWalk.i64_in _ (by omega)
    have v2 : IntKind.i64.wrap (pr * M + 59999) = pr * M + 59999 := IntWalk.i64_in _ (by omega)
    have v3 : (pr * M + 59999).tdiv 60000 = (pr * M + 59999) / 60000 := Int.tdiv_eq_ediv_of_nonneg (by omega)
    have v4 : IntKind.i64.wrap ((pr * M + 59999) / 60000) = (pr * M + 59999) / 60000 := IntWalk.i64_in _ (by omega)
    have v5 : IntKind.i64.wrap (ds + (pr * M + 59999) / 60000) = ds + (pr * M + 59999) / 60000 := IntWalk.i64_in _ (by omega)
    clear hd ht
    by_cases hlt : dl < talk
    · obtain rfl : M = dl + (talk - dl + dp - 1) / dp * dp := by rw [hp.out, if_pos hlt]
      have q2 : 0 ≤ (talk - dl + dp - 1) / dp * dp := by omega
      have q3 : (talk - dl + dp - 1).tdiv dp = (talk - dl + dp - 1) / dp := Int.tdiv_eq_ediv_of_nonneg (by omega)
      have q4 : 0 ≤ (talk - dl + dp - 1) / dp := Int.ediv_nonneg (by omega) (by omega)
      have q5 : (talk - dl + dp - 1) / dp ≤ 172800000 := Int.ediv_le_of_le_mul (by omega) (by have : (172800000 : Int) * 1 ≤ 172800000 * dp := Int.mul_le_mul_of_nonneg_left h3.1 (by omega); omega)
      have u1 : IntKind.i64.wrap (talk - dl) = talk - dl := IntWalk.i64_in _ (by omega)
      have u2 : IntKind.i64.wrap (talk - dl + dp) = talk - dl + dp := IntWalk.i64_in _ (by omega)
      have u3 : IntKind.i64.wrap (talk - dl + dp - 1) = talk - dl + dp - 1 := IntWalk.i64_in _ (by omega)
      generalize (talk - dl + dp - 1) / dp = q at hp q0 q1 q2 q3 q4 q5 hpb hR m0 m1 v1 v2 v3 v4 v5
      have u4 : IntKind.i64.wrap q = q := IntWalk.i64_in _ (by omega)
      have u5 : IntKind.i64.wrap (q * dp) = q * dp := IntWalk.i64_in _ (by omega)
      have u6 : IntKind.i64.wrap (dl + q * dp) = dl + q * dp := IntWalk.i64_in _ (by omega)
      have hz : ¬ dp = 0 := by omega
      clear hp q0 q1 q2 q4 q5 hpb m0 m1 h1 h4 h5
      as_aux_lemma =>
        go_wp2_with fail
        go_quiet (fail)
        go_wp2_with fail
        go_ret
        exact ⟨by rw [hR.out]; rfl, (by (try show Below _ _ _); repeat (with_reducible first | exact Below.refl _ _ | assumption | exact Hid.out (by assumption) | refine ext_alloc ?_ | refine ext_drewN ?_ | refine ext_drew ?_ | refine ext_setCell ?_ (Nat.le_refl _) | refine ext_setCell ?_ (Nat.le_succ _) | refine ext_trans ?_ (by assumption) | (refine ext_setCell ?_ (by simp)) | (refine ext_setCell ?_ (by simp at *; omega))))⟩
    · obtain rfl : M = dl := by rw [hp.out, if_neg hlt]
      clear hp q0 q1 hpb m0 m1 h1 h4 h5
      as_aux_lemma =>
        go_wp2_with fail
        go_ret
        exact ⟨by rw [hR.out]; rfl, HB.out⟩
theorem findR_mem {cs : List Rate} {t : List UInt8} {r : Rate} (h : findR cs t = some r) : r ∈ cs := List.mem_of_find?_eq_some h
theorem rateTo_mem {cs : List Rate} {l : List UInt8} {r : Rate} : ∀ k, rateTo cs l k = some r → r ∈ cs
  | 0, h => findR_mem h
  | k + 1, h => by
    unfold rateTo at h
    cases h9 : findR cs (l.take (k + 1)) with
    | none => rw [h9] at h; exact rateTo_mem k h
    | some x => rw [h9] at h; injection h with h; subst h; exact findR_mem h9
/-- What a call costs, and whether it can be. -/
def priceV (ds dl dp : Int) (cs : List Rate) (l : List UInt8) (talk : Int) : Int × Bool :=
  match rateOf cs l 15 with
  | none => (0, false)
  | some r => if r.closed = true then (0, false) else (priceR ds dl dp r.price talk, true)
/-- Numbers of a deck, and its rates, are right. -/
structure DeckGood (ds dl dp : Int) (cs : List Rate) : Prop where
  h1 : 0 ≤ ds ∧ ds ≤ 100000000
  h2 : 0 ≤ dl ∧ dl ≤ 86400000
  h3 : 1 ≤ dp ∧ dp ≤ 86400000
  sorted : RSorted cs
  each : ∀ r ∈ cs, 0 ≤ r.price ∧ r.price ≤ 100000000
theorem deck_good {d : Deck} (hl : d.rates.length ≤ 5000) (h : deckErr d = 0) : DeckGood d.setup d.least d.step d.rates := by
  have hn : deckNum d = true := by
    cases h9 : deckNum d with
    | true => rfl
    | false => unfold deckErr at h; rw [if_pos h9] at h; cases h
  unfold deckErr at h
  rw [if_neg (by rw [hn]; decide), if_neg (by omega)] at h
  have hz := first_zero h
  unfold deckNum inB at hn
  simp only [Bool.and_eq_true, decide_eq_true_eq] at hn
  have each : ∀ i, i < d.rates.length → (0 < i → Op.bytesLess (d.rates.getD (i - 1) noRate).p (d.rates.getD i noRate).p = true) ∧ 0 ≤ (d.rates.getD i noRate).price ∧ (d.rates.getD i noRate).price ≤ 100000000 := fun i hi => by
    have h9 := hz i hi
    unfold rateErr at h9
    split at h9
    · cases h9
    · split at h9
      · cases h9
      · rename_i h2
        split at h9
        · cases h9
        · rename_i h3
          refine ⟨fun h0 => ?_, ?_⟩
          · cases h4 : Op.bytesLess (d.rates.getD (i - 1) noRate).p (d.rates.getD i noRate).p with
            | true => rfl
            | false => exact absurd ⟨h0, h4⟩ h2
          · have h3 : inB (d.rates.getD i noRate).price 0 100000000 = true := by simpa using h3
            unfold inB at h3
            simpa using h3
  refine ⟨hn.2.1, hn.2.2.1, hn.2.2.2, fun i h0 hi => (each i hi).1 h0, fun r hr => ?_⟩
  obtain ⟨j, hj, rfl⟩ := List.getElem_of_mem hr
  have := (each j hj).2
  rwa [List.getD_eq_getElem?_getD, List.getElem?_eq_getElem hj] at this
def PriceOfPost (r : Int × Bool) (w : World) (e : Ending) (w' : World) : Prop := e = .returned (.tuple #[.int .i64 r.1, .bool r.2]) ∧ Below w.heap.size w w'
set_option maxRecDepth 100000 in
set_option maxHeartbeats 2000000 in
theorem priceOf_any (w : World) (df ds dl dp : Int) (ra : Option Addr) (rn rc : Nat) (cs : List Rate) (l : List UInt8) (talk : Int) (hr : RateRow w ra rn cs) (hg : DeckGood ds dl dp cs) (hl : l.length ≤ 1000) (h5 : 0 ≤ talk ∧ talk ≤ 86400000) :
    Calls Tryz.prog 98 #[.agg #[.int .i64 df, .int .i64 ds, .int .i64 dl, .int .i64 dp, .slice ra rn rc], .string ⟨l.toArray⟩, .int .i64 talk] w (PriceOfPost (priceV ds dl dp cs l talk) w) := by
  obtain ⟨h1, h2, h3, ho, he⟩ := hg
  have HR := Lib.hid (rate_any (w.alloc (.cells #[.int .i64 df, .int .i64 ds, .int .i64 dl, .int .i64 dp, .slice ra rn rc] 63)) df ds dl dp ra rn rc cs l 15 (hr.below (ext_alloc (Below.refl _ _))) ho hl (by omega))
  have HV : Hid (priceV ds dl dp cs l talk = match rateOf cs l 15 with | none => (0, false) | some r => if r.closed = true then (0, false) else (priceR ds dl dp r.price talk, true)) := rfl
  have HM : Hid (∀ r, rateOf cs l 15 = some r → 0 ≤ r.price ∧ r.price ≤ 100000000) := fun r h => he r (rateTo_mem _ h)
  generalize priceV ds dl dp cs l talk = V at HV ⊢
  generalize rateOf cs l 15 = o at HV HR HM
  clear hr ho he hl
  go_enter Tryz.func98, Tryz.ntmps98
  go_upto_region 1 with (fail)
  have HD : Hid (Blk (w.alloc (.cells #[.int .i64 df, .int .i64 ds, .int .i64 dl, .int .i64 dp, .slice ra rn rc] 63)) w.heap.size [.int .i64 df, .int .i64 ds, .int .i64 dl, .int .i64 dp, .slice ra rn rc] 63) := Blk.new w [.int .i64 df, .int .i64 ds, .int .i64 dl, .int .i64 dp, .slice ra rn rc] 63
  have HB : Hid (Below w.heap.size w (w.alloc (.cells #[.int .i64 df, .int .i64 ds, .int .i64 dl, .int .i64 dp, .slice ra rn rc] 63))) := ext_alloc (Below.refl _ _)
  have hsz : w.heap.size < (w.alloc (.cells #[.int .i64 df, .int .i64 ds, .int .i64 dl, .int .i64 dp, .slice ra rn rc] 63)).heap.size := by simp
  generalize w.alloc _ = W at HD HB HR hsz ⊢
  have HRA : Hid (W.rangeAt w.heap.size 0 [.int .i64 df, .int .i64 ds, .int .i64 dl, .int .i64 dp, .slice ra rn rc]) := fun j v hj => by rw [Nat.zero_add]; exact HD.out.cell j hj
  as_aux_lemma =>
    go_wp2_with (refine wpList_load_mid rfl 63 (.tmp 3) rfl w.heap.size 0 rfl [.int .i64 df, .int .i64 ds, .int .i64 dl, .int .i64 dp, .slice ra rn rc] _ HRA.out Tryz.underlying63 rfl Tryz.deckSz ?_)
    refine HR.out.mono ?_
    rintro e w1 ⟨hb1, rfl⟩
    have HB1 := Lib.hid (ext_trans HB.out hb1)
    have HD1 := Lib.hid (HD.out.below hb1)
    have hz1 : w.heap.size < w1.heap.size := by have := hb1.size; omega
    clear hb1 HB HD HRA HR hsz
    cases o with
    | none =>
      obtain rfl : V = (0, false) := HV.out
      clear HV HM
      as_aux_lemma =>
        go_wp2_with fail
        go_ret2
        exact ⟨rfl, (by (try show Below _ _ _); repeat (with_reducible first | exact Below.refl _ _ | assumption | exact Hid.out (by assumption) | refine ext_alloc ?_ | refine ext_drewN ?_ | refine ext_drew ?_ | refine ext_setCell ?_ (Nat.le_refl _) | refine ext_setCell ?_ (Nat.le_succ _) | refine ext_trans ?_ (by assumption) | (refine ext_setCell ?_ (by simp)) | (refine ext_setCell ?_ (by simp at *; omega))))⟩
    | some r =>
      obtain ⟨rp, pr, cl⟩ := r
      obtain ⟨h40, h41⟩ := HM.out _ rfl
      clear HM
      simp only [Option.getD_some, Option.isSome_some] at h40 h41 ⊢
      cases cl with
      | true =>
        obtain rfl : V = (0, false) := HV.out
        clear HV
        as_aux_lemma =>
          go_wp2_with fail
          go_ret2
          exact ⟨rfl, (by (try show Below _ _ _); repeat (with_reducible first | exact Below.refl _ _ | assumption | exact Hid.out (by assumption) | refine ext_alloc ?_ | refine ext_drewN ?_ | refine ext_drew ?_ | refine ext_setCell ?_ (Nat.le_refl _) | refine ext_setCell ?_ (Nat.le_succ _) | refine ext_trans ?_ (by assumption) | (refine ext_setCell ?_ (by simp)) | (refine ext_setCell ?_ (by simp at *; omega))))⟩
      | false =>
        obtain rfl : V = (priceR ds dl dp pr talk, true) := HV.out
        clear HV
        have HP := Lib.hid (fun W => priceC_any W df ds dl dp ra rn rc rp pr false talk h1 h2 h3 ⟨h40, h41⟩ h5)
        have d0 := HD1.out.cell 0 rfl
        have d1 := HD1.out.cell 1 rfl
        have d2 := HD1.out.cell 2 rfl
        have d3 := HD1.out.cell 3 rfl
        have d4 := HD1.out.cell 4 rfl
        have hne : w.heap.size ≠ w1.heap.size := by omega
        have hne2 : w1.heap.size ≠ w.heap.size := by omega
        as_aux_lemma =>
          go_wp2_with fail
          refine (HP.out _).mono ?_
          rintro e w2 ⟨rfl, hb2⟩
          have HB2 := Lib.hid hb2
          go_wp2_with fail
          go_ret2
          exact ⟨rfl, (by (try show Below _ _ _); repeat (with_reducible first | exact Below.refl _ _ | assumption | exact Hid.out (by assumption) | refine ext_alloc ?_ | refine ext_drewN ?_ | refine ext_drew ?_ | refine ext_setCell ?_ (Nat.le_refl _) | refine ext_setCell ?_ (Nat.le_succ _) | refine ext_trans ?_ (by assumption) | (refine ext_setCell ?_ (by simp)) | (refine ext_setCell ?_ (by simp at *; omega))))⟩
theorem priceOf_str (w : World) (df ds dl dp : Int) (ra : Option Addr) (rn rc : Nat) (cs : List Rate) (l : List UInt8) (s : ByteArray) (hs : s = ⟨l.toArray⟩) (talk : Int) (hr : RateRow w ra rn cs) (hg : DeckGood ds dl dp cs) (hl : l.length ≤ 1000) (h5 : 0 ≤ talk ∧ talk ≤ 86400000) :
    Calls Tryz.prog 98 #[.agg #[.int .i64 df, .int .i64 ds, .int .i64 dl, .int .i64 dp, .slice ra rn rc], .string s, .int .i64 talk] w (PriceOfPost (priceV ds dl dp cs l talk) w) := by
  subst hs
  exact priceOf_any w df ds dl dp ra rn rc cs l talk hr hg hl h5
/-- The error of Price; what it answers. -/
def priceE (d : Deck) (n : List UInt8) (talk : Int) : Int := if deckErr d ≠ 0 then deckErr d else if isNumB n = false then 3 else if inB talk 0 86400000 = false then 1 else 0
def priceA (d : Deck) (n : List UInt8) (talk : Int) : Int × Bool := if priceE d n talk = 0 then priceV d.setup d.least d.step d.rates (n.drop 1) talk else (0, false)
def PricePost (d : Deck) (n : List UInt8) (talk : Int) (w : World) (e : Ending) (w' : World) : Prop := e = .returned (.tuple #[.int .i64 (priceA d n talk).1, .bool (priceA d n talk).2, .int .i64 (priceE d n talk)]) ∧ Below w.heap.size w w'
theorem price_bad {d : Deck} {n : List UInt8} {talk E : Int} {w w' : World} (h : priceE d n talk = E) (hE : E ≠ 0) (hb : Below w.heap.size w w') : PricePost d n talk w (.returned (.tuple #[.int .i64 0, .bool false, .int .i64 E])) w' := by
  unfold PricePost priceA
  rw [h, if_neg hE]
  exact ⟨rfl, hb⟩
theorem price_fine {d : Deck} {n : List UInt8} {talk : Int} {w w' : World} (h : priceE d n talk = 0) (hb : Below w.heap.size w w') : PricePost d n talk w (.returned (.tuple #[.int .i64 (priceV d.setup d.least d.step d.rates (n.drop 1) talk).1, .bool (priceV d.setup d.least d.step d.rates (n.drop 1) talk).2, .int .i64 0])) w' := by
  unfold PricePost priceA
  rw [h, if_pos rfl]
  exact ⟨rfl, hb⟩
set_option maxRecDepth 100000 in
set_option maxHeartbeats 2000000 in
theorem carPrice_any (w : World) (d : Deck) (hd : DeckFine w d) (n : List UInt8) (hn : n.length ≤ 1000) (talk : Int) : Calls Tryz.prog 65 #[.agg d.cells.toArray, .string ⟨n.toArray⟩, .int .i64 talk] w (PricePost d n talk w) := by
  have hlen := hd.row.len
  have hfew := hd.row.few
  have hgood := fun h => deck_good (d := d) (by omega) h
  have HG := Lib.hid hgood
  have HCD := Lib.hid (fun W (h : DeckFine W d) => checkDeck_any W d h)
  have HE : Hid (∀ E, priceE d n talk = E → priceE d n talk = E) := fun _ h => h
  have HR0 := Lib.hid hd
  have HBD : Hid (∀ W, Below w.heap.size w W → ∀ E, E ≠ 0 → priceE d n talk = E → PricePost d n talk w (.returned (.tuple #[.int .i64 0, .bool false, .int .i64 E])) W) := fun W hW E hE h => price_bad h hE hW
  have HOK : Hid (∀ W, Below w.heap.size w W → priceE d n talk = 0 → PricePost d n talk w (.returned (.tuple #[.int .i64 (priceV d.setup d.least d.step d.rates (n.drop 1) talk).1, .bool (priceV d.setup d.least d.step d.rates (n.drop 1) talk).2, .int .i64 0])) W) := fun W hW h => price_fine h hW
  have HEE : Hid (priceE d n talk = if deckErr d ≠ 0 then deckErr d else if isNumB n = false then 3 else if inB talk 0 86400000 = false then 1 else 0) := rfl
  generalize priceE d n talk = X at HBD HOK HEE
  clear hd hlen hfew hgood HE
  obtain ⟨df, ds, dl, dp, ra, rn, rc, rates⟩ := d
  generalize hpp : PricePost ⟨df, ds, dl, dp, ra, rn, rc, rates⟩ n talk w = PP at HBD HOK ⊢
  clear hpp
  generalize deckErr ⟨df, ds, dl, dp, ra, rn, rc, rates⟩ = DE at HEE HG HCD
  show Calls Tryz.prog 65 #[.agg #[.int .i64 df, .int .i64 ds, .int .i64 dl, .int .i64 dp, .slice ra rn rc], .string ⟨n.toArray⟩, .int .i64 talk] w _
  simp only [Deck.cells] at HG HOK HCD
  go_enter Tryz.func65, Tryz.ntmps65
  go_upto_region 1 with (fail)
  have HD : Hid (Blk (w.alloc (.cells #[.int .i64 df, .int .i64 ds, .int .i64 dl, .int .i64 dp, .slice ra rn rc] 63)) w.heap.size [.int .i64 df, .int .i64 ds, .int .i64 dl, .int .i64 dp, .slice ra rn rc] 63) := Blk.new w [.int .i64 df, .int .i64 ds, .int .i64 dl, .int .i64 dp, .slice ra rn rc] 63
  have HB : Hid (Below w.heap.size w (w.alloc (.cells #[.int .i64 df, .int .i64 ds, .int .i64 dl, .int .i64 dp, .slice ra rn rc] 63))) := ext_alloc (Below.refl _ _)
  have hsz : w.heap.size < (w.alloc (.cells #[.int .i64 df, .int .i64 ds, .int .i64 dl, .int .i64 dp, .slice ra rn rc] 63)).heap.size := by simp
  generalize w.alloc _ = W at HD HB hsz ⊢
  have HRA : Hid (W.rangeAt w.heap.size 0 [.int .i64 df, .int .i64 ds, .int .i64 dl, .int .i64 dp, .slice ra rn rc]) := fun j v hj => by rw [Nat.zero_add]; exact HD.out.cell j hj
  as_aux_lemma =>
    go_wp2_with (refine wpList_load_mid rfl 63 (.tmp 3) rfl w.heap.size 0 rfl [.int .i64 df, .int .i64 ds, .int .i64 dl, .int .i64 dp, .slice ra rn rc] _ HRA.out Tryz.underlying63 rfl Tryz.deckSz ?_)
    refine (HCD.out _ (HR0.out.below HB.out)).mono ?_
    rintro e w1 ⟨rfl, hb1⟩
    have HB1 := Lib.hid (ext_trans HB.out hb1)
    have HD1 := Lib.hid (HD.out.below hb1)
    have hz1 : w.heap.size < w1.heap.size := by have := hb1.size; omega
    clear hb1 HB HD HRA HCD hsz
    by_cases hDE : DE = 0
    case neg =>
      obtain rfl : X = DE := by rw [HEE.out, if_pos hDE]
      have HF := Lib.hid (HBD.out w1 HB1.out X hDE rfl)
      clear HBD HOK HEE HG
      as_aux_lemma =>
        go_wp2_with fail
        go_ret3
        exact HF.out
    subst hDE
    have HE1 : Hid (X = if isNumB n = false then 3 else if inB talk 0 86400000 = false then 1 else 0) := by show X = _; rw [HEE.out, if_neg (by decide)]
    clear HEE
    have HIN := Lib.hid (isNumber_l n w1 (by omega))
    have HNL : Hid (isNumB n = true → 1 ≤ n.length) := fun h => by obtain ⟨d, rfl, -⟩ := num_parts h; simp
    generalize isNumB n = g1 at HE1 HIN HNL
    skip
    as_aux_lemma =>
      go_wp2_with fail
      refine HIN.out.mono ?_
      rintro e w2 ⟨rfl, hb2⟩
      have HB2 := Lib.hid (ext_trans HB1.out hb2)
      have HD2 := Lib.hid (HD1.out.below hb2)
      have hz2 : w.heap.size < w2.heap.size := by have := hb2.size; omega
      clear hb2 HB1 HD1 HIN
      cases g1
      · obtain rfl : X = 3 := by rw [HE1.out, if_pos rfl]
        have HF := Lib.hid (HBD.out w2 HB2.out 3 (by decide) rfl)
        clear HBD HOK HE1 HG
        skip
        as_aux_lemma =>
          go_wp2_with fail
          go_ret3
          exact HF.out
      have HE2 : Hid (X = if inB talk 0 86400000 = false then 1 else 0) := by show X = _; rw [HE1.out, if_neg (by decide)]
      have HTK : Hid (inB talk 0 86400000 = true → 0 ≤ talk ∧ talk ≤ 86400000) := fun h => by unfold inB at h; simpa using h
      clear HE1
      skip
      as_aux_lemma =>
        go_wp2_with fail
        refine (within_c talk 0 86400000 _).mono ?_
        rintro e w3 ⟨rfl, rfl⟩
        generalize inB talk 0 86400000 = g2 at HE2 HTK ⊢
        cases g2
        · obtain rfl : X = 1 := by rw [HE2.out, if_pos rfl]
          have HF := Lib.hid (HBD.out w2 HB2.out 1 (by decide) rfl)
          clear HBD HOK HE2 HG
          skip
          as_aux_lemma =>
            go_wp2_with fail
            go_ret3
            exact HF.out
        obtain rfl : X = 0 := by rw [HE2.out, if_neg (by decide)]
        have ht := HTK.out rfl
        have HF := Lib.hid (fun W hW => HOK.out W hW rfl)
        have HDG := Lib.hid (HG.out (by trivial))
        clear HBD HOK HE2 HG HTK
        have HRA : Hid (w2.rangeAt w.heap.size 0 [.int .i64 df, .int .i64 ds, .int .i64 dl, .int .i64 dp, .slice ra rn rc]) := fun j v hj => by rw [Nat.zero_add]; exact HD2.out.cell j hj
        have HRR : Hid (RateRow w2 ra rn rates) := (HR0.out.below HB2.out).row
        have hnd : (n.drop 1).length ≤ 1000 := by rw [List.length_drop]; omega
        simp only [List.drop_one] at HF
        have hn1 : 1 ≤ n.length := HNL.out (by trivial)
        have d0 := HD2.out.cell 0 rfl
        have d1 := HD2.out.cell 1 rfl
        have d2 := HD2.out.cell 2 rfl
        have d3 := HD2.out.cell 3 rfl
        have d4 := HD2.out.cell 4 rfl
        clear HNL HR0 HD2
        have HPO : Hid (∀ W, Below w2.heap.size w2 W → Calls Tryz.prog 98 #[.agg #[.int .i64 df, .int .i64 ds, .int .i64 dl, .int .i64 dp, .slice ra rn rc], .string ((⟨n.toArray⟩ : ByteArray).extract 1 n.length), .int .i64 talk] W (PriceOfPost (priceV ds dl dp rates (n.drop 1) talk) W)) := fun W hW => priceOf_str W df ds dl dp ra rn rc rates (n.drop 1) _ (extract_drop n 1) talk (HRR.out.below hW) HDG.out hnd ht
        go_wp2_with fail
        go_region_with (go_at_call 98; refine (HPO.out _ (ext_drew (Below.refl _ _))).mono ?_; rintro e w3 ⟨rfl, hb3⟩)
        all_goals
          have HF3 := Lib.hid (HF.out _ (ext_trans (ext_drew HB2.out) hb3))
          clear HF hb3
          go_wp2_with fail
          go_ret3
          exact HF3.out
end Go.Proofs.YtppinnjdaoaddaaGreatDoor

set_option linter.unusedVariables false
set_option linter.unusedSimpArgs false
namespace Go.Proofs.YtppinnjdaoaddaaGreatDoor
open Go.RowKit

def dkv (o : Option Deck) : List Value := [.int .i64 (o.getD noDeck).from_, .int .i64 (o.getD noDeck).setup, .int .i64 (o.getD noDeck).least, .int .i64 (o.getD noDeck).step, .slice (o.getD noDeck).ra (o.getD noDeck).rn (o.getD noDeck).rc]
theorem below5 {w W : World} {G : Nat} (hG : w.heap.size ≤ G) (h : Below w.heap.size w W) (vs : List Value) : Below w.heap.size w (W.setCells G 0 vs) := h.trans ((below_setCells hG vs W 0))
theorem rate_row0R (w : World) : RateRow w none 0 [] := ⟨⟨rfl, Or.inl rfl⟩, by omega, fun i hi => by cases hi⟩
theorem lastD_memR (ps : List Deck) (t : Int) : ∀ k, k ≤ ps.length → ∀ d, lastD ps t k = some d → d ∈ ps
  | 0, _, d, h => by cases h
  | k + 1, hk, d, h => by
    unfold lastD at h
    split at h
    · injection h with h; subst h; exact mem_getD _ (by omega)
    · exact lastD_memR ps t k (by omega) d h
theorem deckV_fineR {w : World} {a : Option Addr} {m : Nat} {ps : List Deck} (h : DeckRow w a m ps) (t : Int) : RateRow w ((deckV ps t).getD noDeck).ra ((deckV ps t).getD noDeck).rn ((deckV ps t).getD noDeck).rates := by
  cases h9 : deckV ps t with
  | none => exact rate_row0R w
  | some d =>
    obtain ⟨j, hj, rfl⟩ := List.getElem_of_mem (lastD_memR ps t ps.length (Nat.le_refl _) d h9)
    have := (h.each j hj).row
    rw [List.getD_eq_getElem?_getD, List.getElem?_eq_getElem hj] at this
    exact this
set_option maxRecDepth 100000 in
set_option maxHeartbeats 8000000 in
theorem deckOf_any (w : World) (ky : List UInt8) (ln : Int) (a : Option Addr) (m cap : Nat) (ps : List Deck) (hp : DeckRow w a m ps) (hcap : m ≤ cap) (t : Int) :
    Calls Tryz.prog 32 #[.agg #[.string ⟨ky.toArray⟩, .int .i64 ln, .slice a m cap], .int .i64 t] w (DeckAns (deckV ps t) w) := by
  have HP := Lib.hid hp
  have HLEN := Lib.hid hp.len
  have hfew := hp.few
  clear hp
  have HOK : Hid (∀ W, Below w.heap.size w W → DeckAns (deckV ps t) w (.returned (.tuple #[.agg #[.int .i64 ((deckV ps t).getD noDeck).from_, .int .i64 ((deckV ps t).getD noDeck).setup, .int .i64 ((deckV ps t).getD noDeck).least, .int .i64 ((deckV ps t).getD noDeck).step, .slice ((deckV ps t).getD noDeck).ra ((deckV ps t).getD noDeck).rn ((deckV ps t).getD noDeck).rc], .bool (deckV ps t).isSome])) W) := fun W hW => ⟨rfl, hW⟩
  have HDV : Hid (deckV ps t = lastD ps t ps.length) := rfl
  generalize hPP : DeckAns (deckV ps t) w = PP at HOK ⊢
  clear hPP
  go_enter Tryz.func32, Tryz.ntmps32
  go_upto_region 2 with (fail)
  have HC0 : Hid (Blk (((w.alloc (.cells #[.string ⟨ky.toArray⟩, .int .i64 ln, .slice a m cap] 72)).alloc (.cells #[.int .i64 0, .int .i64 0, .int .i64 0, .int .i64 0, .slice none 0 0] 63)).alloc (.cells #[.int .i64 0, .int .i64 0, .int .i64 0, .int .i64 0, .slice none 0 0] 63)) w.heap.size [.string ⟨ky.toArray⟩, .int .i64 ln, .slice a m cap] 72) := ((Blk.new w [.string ⟨ky.toArray⟩, .int .i64 ln, .slice a m cap] 72).alloc _).alloc _
  have HG0 : Hid (Blk (((w.alloc (.cells #[.string ⟨ky.toArray⟩, .int .i64 ln, .slice a m cap] 72)).alloc (.cells #[.int .i64 0, .int .i64 0, .int .i64 0, .int .i64 0, .slice none 0 0] 63)).alloc (.cells #[.int .i64 0, .int .i64 0, .int .i64 0, .int .i64 0, .slice none 0 0] 63)) (w.heap.size + 1) [.int .i64 0, .int .i64 0, .int .i64 0, .int .i64 0, .slice none 0 0] 63) := by
    have := (Blk.new (w.alloc (.cells #[.string ⟨ky.toArray⟩, .int .i64 ln, .slice a m cap] 72)) [.int .i64 0, .int .i64 0, .int .i64 0, .int .i64 0, .slice none 0 0] 63).alloc (.cells #[.int .i64 0, .int .i64 0, .int .i64 0, .int .i64 0, .slice none 0 0] 63)
    show Blk _ _ _ _
    simpa using this
  have HY0 : Hid (Blk (((w.alloc (.cells #[.string ⟨ky.toArray⟩, .int .i64 ln, .slice a m cap] 72)).alloc (.cells #[.int .i64 0, .int .i64 0, .int .i64 0, .int .i64 0, .slice none 0 0] 63)).alloc (.cells #[.int .i64 0, .int .i64 0, .int .i64 0, .int .i64 0, .slice none 0 0] 63)) (w.heap.size + 1 + 1) (dkv none) 63) := by
    have := Blk.new ((w.alloc (.cells #[.string ⟨ky.toArray⟩, .int .i64 ln, .slice a m cap] 72)).alloc (.cells #[.int .i64 0, .int .i64 0, .int .i64 0, .int .i64 0, .slice none 0 0] 63)) [.int .i64 0, .int .i64 0, .int .i64 0, .int .i64 0, .slice none 0 0] 63
    show Blk _ _ _ _
    simpa [dkv, noDeck] using this
  have HB0 : Hid (Below w.heap.size w (((w.alloc (.cells #[.string ⟨ky.toArray⟩, .int .i64 ln, .slice a m cap] 72)).alloc (.cells #[.int .i64 0, .int .i64 0, .int .i64 0, .int .i64 0, .slice none 0 0] 63)).alloc (.cells #[.int .i64 0, .int .i64 0, .int .i64 0, .int .i64 0, .slice none 0 0] 63))) := ext_alloc (ext_alloc (ext_alloc (Below.refl _ _)))
  generalize (((w.alloc (.cells #[.string ⟨ky.toArray⟩, .int .i64 ln, .slice a m cap] 72)).alloc (.cells #[.int .i64 0, .int .i64 0, .int .i64 0, .int .i64 0, .slice none 0 0] 63)).alloc (.cells #[.int .i64 0, .int .i64 0, .int .i64 0, .int .i64 0, .slice none 0 0] 63)) = W0 at HC0 HG0 HY0 HB0 ⊢
  have c2 := HC0.out.cell 2 rfl
  as_aux_lemma =>
    go_wp2_with fail
    go_loopw [7, 14] (fun v7 it wr => ∃ k : Nat, k ≤ m ∧ it = .int .i64 k ∧ v7 = .bool (lastD ps t k).isSome ∧ Hid (Blk wr (w.heap.size + 1) [.int .i64 0, .int .i64 0, .int .i64 0, .int .i64 0, .slice none 0 0] 63) ∧ Hid (Blk wr (w.heap.size + 1 + 1) (dkv (lastD ps t k)) 63) ∧ Hid (Below w.heap.size w wr)) (fun _ it _ => m - (intOf it).toNat)
    case atStart => exact ⟨0, Nat.zero_le _, rfl, rfl, HG0.out, HY0.out, HB0.out⟩
    case round =>
      clear HC0 HG0 HY0 HB0 c2
      obtain ⟨k, hk, rfl, rfl, HG, HY, HB⟩ := hrel
      by_cases hlt : k < m
      case neg =>
        obtain rfl : k = m := by omega
        have hge : ¬ (k : Int) < (k : Int) := by omega
        have hle : k = ps.length := HLEN.out
        subst hle
        have HRA : Hid (wr.rangeAt (w.heap.size + 1 + 1) 0 [.int .i64 ((lastD ps t ps.length).getD noDeck).from_, .int .i64 ((lastD ps t ps.length).getD noDeck).setup, .int .i64 ((lastD ps t ps.length).getD noDeck).least, .int .i64 ((lastD ps t ps.length).getD noDeck).step, .slice ((lastD ps t ps.length).getD noDeck).ra ((lastD ps t ps.length).getD noDeck).rn ((lastD ps t ps.length).getD noDeck).rc]) := fun j v hj => by rw [Nat.zero_add]; exact HY.out.cell j hj
        have HTH : Hid (wr.there (w.heap.size + 1) 0 5) := HG.out.th 5 (by simp)
        have HF9 := Lib.hid (HOK.out (wr.setCells (w.heap.size + 1) 0 [.int .i64 ((lastD ps t ps.length).getD noDeck).from_, .int .i64 ((lastD ps t ps.length).getD noDeck).setup, .int .i64 ((lastD ps t ps.length).getD noDeck).least, .int .i64 ((lastD ps t ps.length).getD noDeck).step, .slice ((lastD ps t ps.length).getD noDeck).ra ((lastD ps t ps.length).getD noDeck).rn ((lastD ps t ps.length).getD noDeck).rc]) (below5 (by omega) HB.out _))
        rw [HDV.out] at HF9
        have HR9 : Hid (Blk (wr.setCells (w.heap.size + 1) 0 [.int .i64 ((lastD ps t ps.length).getD noDeck).from_, .int .i64 ((lastD ps t ps.length).getD noDeck).setup, .int .i64 ((lastD ps t ps.length).getD noDeck).least, .int .i64 ((lastD ps t ps.length).getD noDeck).step, .slice ((lastD ps t ps.length).getD noDeck).ra ((lastD ps t ps.length).getD noDeck).rn ((lastD ps t ps.length).getD noDeck).rc]) (w.heap.size + 1) [.int .i64 ((lastD ps t ps.length).getD noDeck).from_, .int .i64 ((lastD ps t ps.length).getD noDeck).setup, .int .i64 ((lastD ps t ps.length).getD noDeck).least, .int .i64 ((lastD ps t ps.length).getD noDeck).step, .slice ((lastD ps t ps.length).getD noDeck).ra ((lastD ps t ps.length).getD noDeck).rn ((lastD ps t ps.length).getD noDeck).rc] 63) := (((((HG.out.put 0 _).put 1 _).put 2 _).put 3 _).put 4 _)
        clear hlt HG HY HB HOK HP
        as_aux_lemma =>
          go_wp2_with (first | (refine wpList_load_mid rfl 63 (.tmp 6) rfl (w.heap.size + 1 + 1) 0 rfl [.int .i64 ((lastD ps t ps.length).getD noDeck).from_, .int .i64 ((lastD ps t ps.length).getD noDeck).setup, .int .i64 ((lastD ps t ps.length).getD noDeck).least, .int .i64 ((lastD ps t ps.length).getD noDeck).step, .slice ((lastD ps t ps.length).getD noDeck).ra ((lastD ps t ps.length).getD noDeck).rn ((lastD ps t ps.length).getD noDeck).rc] _ HRA.out Tryz.underlying63 rfl Tryz.deckSz ?_) | (refine wpList_store_mid rfl 63 (.tmp 4) (.tmp 24) rfl (w.heap.size + 1) 0 #[.int .i64 ((lastD ps t ps.length).getD noDeck).from_, .int .i64 ((lastD ps t ps.length).getD noDeck).setup, .int .i64 ((lastD ps t ps.length).getD noDeck).least, .int .i64 ((lastD ps t ps.length).getD noDeck).step, .slice ((lastD ps t ps.length).getD noDeck).ra ((lastD ps t ps.length).getD noDeck).rn ((lastD ps t ps.length).getD noDeck).rc] rfl rfl HTH.out Tryz.deckSz (by simp [Value.oneCell']) ?_; generalize World.setCells wr (w.heap.size + 1) 0 _ = W9 at HF9 HR9 ⊢))
          refine bodyPost_ret (v := .tuple #[.agg #[.int .i64 ((lastD ps t ps.length).getD noDeck).from_, .int .i64 ((lastD ps t ps.length).getD noDeck).setup, .int .i64 ((lastD ps t ps.length).getD noDeck).least, .int .i64 ((lastD ps t ps.length).getD noDeck).step, .slice ((lastD ps t ps.length).getD noDeck).ra ((lastD ps t ps.length).getD noDeck).rn ((lastD ps t ps.length).getD noDeck).rc], .bool (lastD ps t ps.length).isSome]) ?_ rfl HF9.out
          exact results_cell2 (t := 4) (u := 5) (by rfl) _ _ _ Tryz.isAgg63 Tryz.sizeOf63 (by rfl) [.int .i64 ((lastD ps t ps.length).getD noDeck).from_, .int .i64 ((lastD ps t ps.length).getD noDeck).setup, .int .i64 ((lastD ps t ps.length).getD noDeck).least, .int .i64 ((lastD ps t ps.length).getD noDeck).step, .slice ((lastD ps t ps.length).getD noDeck).ra ((lastD ps t ps.length).getD noDeck).rn ((lastD ps t ps.length).getD noDeck).rc] rfl (fun j v hj => HR9.out.cell j hj)
      have hlti : (k : Int) < (m : Int) := by omega
      obtain ⟨b, off, rfl, hb, hc⟩ := (HP.out.below HB.out).at (by omega)
      obtain ⟨c0, c1, c2, c3, c4⟩ := hc k hlt
      have hw1 : w.heap.size + 1 + 1 < wr.heap.size := HY.out.lt
      have HE : Hid (lastD ps t (k + 1) = if (ps.getD k noDeck).from_ ≤ t then some (ps.getD k noDeck) else lastD ps t k) := rfl
      clear hc
      generalize ps.getD k noDeck = d at c0 c1 c2 c3 c4 HE
      obtain ⟨df, ds, dl, dp, ra, rn, rc, rates⟩ := d
      simp only at c0 c1 c2 c3 c4 HE
      have HRC : Hid (wr.rangeAt b (off + k * 5) [.int .i64 df, .int .i64 ds, .int .i64 dl, .int .i64 dp, .slice ra rn rc]) := fun j v hj => by
        match j, hj with
        | 0, hj => simp at hj; subst hj; exact c0
        | 1, hj => simp at hj; subst hj; exact c1
        | 2, hj => simp at hj; subst hj; exact c2
        | 3, hj => simp at hj; subst hj; exact c3
        | 4, hj => simp at hj; subst hj; exact c4
      have HTX : Hid ((wr.alloc (.cells #[.int .i64 0, .int .i64 0, .int .i64 0, .int .i64 0, .slice none 0 0] 63)).there wr.heap.size 0 5) := (Blk.new wr [.int .i64 0, .int .i64 0, .int .i64 0, .int .i64 0, .slice none 0 0] 63).th 5 (by decide)
      have HX1 : Hid (Blk (World.setCells (wr.alloc (.cells #[.int .i64 0, .int .i64 0, .int .i64 0, .int .i64 0, .slice none 0 0] 63)) wr.heap.size 0 [.int .i64 df, .int .i64 ds, .int .i64 dl, .int .i64 dp, .slice ra rn rc]) wr.heap.size [.int .i64 df, .int .i64 ds, .int .i64 dl, .int .i64 dp, .slice ra rn rc] 63) := ((((((Blk.new wr [.int .i64 0, .int .i64 0, .int .i64 0, .int .i64 0, .slice none 0 0] 63).put 0 _).put 1 _).put 2 _).put 3 _).put 4 _)
      have hA : Below wr.heap.size wr (World.setCells (wr.alloc (.cells #[.int .i64 0, .int .i64 0, .int .i64 0, .int .i64 0, .slice none 0 0] 63)) wr.heap.size 0 [.int .i64 df, .int .i64 ds, .int .i64 dl, .int .i64 dp, .slice ra rn rc]) := below5 (Nat.le_refl _) (ext_alloc (Below.refl _ _)) _
      have HG1 := Lib.hid (HG.out.below hA)
      have HY1 := Lib.hid (HY.out.below hA)
      have HB1 := Lib.hid (ext_trans HB.out hA)
      clear hA HG HY HB c0 c1 c2 c3 c4
      as_aux_lemma =>
        go_upto_region 5 with (first | (refine wpList_load_mid rfl 63 (.tmp 16) rfl b (off + k * 5) rfl [.int .i64 df, .int .i64 ds, .int .i64 dl, .int .i64 dp, .slice ra rn rc] _ HRC.out Tryz.underlying63 rfl Tryz.deckSz ?_) | (refine wpList_store_mid rfl 63 (.tmp 9) (.tmp 17) rfl wr.heap.size 0 #[.int .i64 df, .int .i64 ds, .int .i64 dl, .int .i64 dp, .slice ra rn rc] rfl rfl HTX.out Tryz.deckSz (by simp [Value.oneCell']) ?_; generalize World.setCells (wr.alloc (.cells #[.int .i64 0, .int .i64 0, .int .i64 0, .int .i64 0, .slice none 0 0] 63)) wr.heap.size 0 _ = w1 at HX1 HG1 HY1 HB1 ⊢))
        clear HRC HTX
        generalize wr.heap.size = X at HX1 hw1 ⊢
        have x0 := HX1.out.cell 0 rfl
        by_cases hle : df ≤ t
        · have HO2 : Hid (lastD ps t (k + 1) = some ⟨df, ds, dl, dp, ra, rn, rc, rates⟩) := by show _ = _; rw [HE.out, if_pos hle]
          have HRX : Hid (w1.rangeAt X 0 [.int .i64 df, .int .i64 ds, .int .i64 dl, .int .i64 dp, .slice ra rn rc]) := fun j v hj => by rw [Nat.zero_add]; exact HX1.out.cell j hj
          have HTY : Hid (w1.there (w.heap.size + 1 + 1) 0 5) := HY1.out.th 5 (by simp [dkv])
          have HG2 : Hid (Blk (World.setCells w1 (w.heap.size + 1 + 1) 0 [.int .i64 df, .int .i64 ds, .int .i64 dl, .int .i64 dp, .slice ra rn rc]) (w.heap.size + 1) [.int .i64 0, .int .i64 0, .int .i64 0, .int .i64 0, .slice none 0 0] 63) := (((((HG1.out.far (by show w.heap.size + 1 + 1 ≠ w.heap.size + 1; omega)).far (by show w.heap.size + 1 + 1 ≠ w.heap.size + 1; omega)).far (by show w.heap.size + 1 + 1 ≠ w.heap.size + 1; omega)).far (by show w.heap.size + 1 + 1 ≠ w.heap.size + 1; omega)).far (by show w.heap.size + 1 + 1 ≠ w.heap.size + 1; omega))
          have HY2 : Hid (Blk (World.setCells w1 (w.heap.size + 1 + 1) 0 [.int .i64 df, .int .i64 ds, .int .i64 dl, .int .i64 dp, .slice ra rn rc]) (w.heap.size + 1 + 1) [.int .i64 df, .int .i64 ds, .int .i64 dl, .int .i64 dp, .slice ra rn rc] 63) := (((((HY1.out.put 0 _).put 1 _).put 2 _).put 3 _).put 4 _)
          have HB2 : Hid (Below w.heap.size w (World.setCells w1 (w.heap.size + 1 + 1) 0 [.int .i64 df, .int .i64 ds, .int .i64 dl, .int .i64 dp, .slice ra rn rc])) := below5 (by omega) HB1.out _
          clear HE HG1 HY1 HB1 HX1
          as_aux_lemma =>
            go_wp2_with (first | (refine wpList_load_mid rfl 63 (.tmp 9) rfl X 0 rfl [.int .i64 df, .int .i64 ds, .int .i64 dl, .int .i64 dp, .slice ra rn rc] _ HRX.out Tryz.underlying63 rfl Tryz.deckSz ?_) | (refine wpList_store_mid rfl 63 (.tmp 6) (.tmp 22) rfl (w.heap.size + 1 + 1) 0 #[.int .i64 df, .int .i64 ds, .int .i64 dl, .int .i64 dp, .slice ra rn rc] rfl rfl HTY.out Tryz.deckSz (by simp [Value.oneCell']) ?_; generalize World.setCells w1 (w.heap.size + 1 + 1) 0 _ = w2 at HG2 HY2 HB2 ⊢))
            go_roundw
            case rel => exact ⟨k + 1, by omega, by go_num, by first | (rw [HO2.out]; done) | (rw [HO2.out]; rfl), HG2.out, by rw [HO2.out]; exact HY2.out, HB2.out⟩
            case measure => simp [intOf]; omega
        · have HO2 : Hid (lastD ps t (k + 1) = lastD ps t k) := by show _ = _; rw [HE.out, if_neg hle]
          clear HE HX1
          as_aux_lemma =>
            go_wp2_with fail
            go_roundw
            case rel => exact ⟨k + 1, by omega, by go_num, by first | (rw [HO2.out]; done) | (rw [HO2.out]; rfl), HG1.out, by rw [HO2.out]; exact HY1.out, HB1.out⟩
            case measure => simp [intOf]; omega
end Go.Proofs.YtppinnjdaoaddaaGreatDoor

set_option linter.unusedVariables false
set_option linter.unusedSimpArgs false
namespace Go.Proofs.YtppinnjdaoaddaaGreatDoor
open Go.RowKit

theorem flat_set {α : Type} (f : α → List Value) (k : Nat) (hk : ∀ x, (f x).length = k) : ∀ (l : List α) (r j : Nat) (d y : α) (v : Value), r < l.length → j < k → f y = (f (l.getD r d)).set j v → ((l.set r y).map f).flatten = ((l.map f).flatten).set (r * k + j) v
  | c :: cs, 0, j, d, y, v, _, hj, hy => by
    have hy' : f y = (f c).set j v := hy
    simp only [List.set_cons_zero, List.map_cons, List.flatten_cons, Nat.zero_mul, Nat.zero_add]
    rw [hy', List.set_append_left _ _ (by rw [hk]; exact hj)]
  | c :: cs, r + 1, j, d, y, v, hr, hj, hy => by
    have ih := flat_set f k hk cs r j d y v (by simpa using hr) hj (by simpa using hy)
    have e : (r + 1) * k = r * k + k := Nat.succ_mul r k
    simp only [List.set_cons_succ, List.map_cons, List.flatten_cons]
    rw [List.set_append_right _ _ (by rw [hk]; omega), hk, show (r + 1) * k + j - k = r * k + j by omega, ih]
/-- Field j of element r is written. -/
theorem own_put1 {α : Type} (f : α → List Value) {k : Nat} (hk : ∀ x, (f x).length = k) {w : World} {base g n cap : Nat} {e : TypeId} {l : List α} (h : w.ownsRow base e k (.slice (some ⟨g, 0, none⟩) n cap) n ((l.map f).flatten)) (r j : Nat) (d y : α) (v : Value) (hr : r < l.length) (hj : j < k) (hy : f y = (f (l.getD r d)).set j v) :
    (w.setCell ⟨g, r * k + j, none⟩ v).ownsRow base e k (.slice (some ⟨g, 0, none⟩) n cap) n (((l.set r y).map f).flatten) := by
  rw [flat_set f k hk l r j d y v hr hj hy]
  exact (h.stored _ _).1
theorem flat_atF {α : Type} (f : α → List Value) (k : Nat) (hk : ∀ x, (f x).length = k) : ∀ (l : List α) (r j : Nat) (d : α), r < l.length → j < k → ((l.map f).flatten)[r * k + j]? = (f (l.getD r d))[j]?
  | c :: cs, 0, j, d, _, hj => by
    simp only [List.map_cons, List.flatten_cons, Nat.zero_mul, Nat.zero_add]
    rw [List.getElem?_append_left (by rw [hk]; exact hj)]
    rfl
  | c :: cs, r + 1, j, d, hr, hj => by
    have ih := flat_atF f k hk cs r j d (by simpa using hr) hj
    have e : (r + 1) * k = r * k + k := Nat.succ_mul r k
    simp only [List.map_cons, List.flatten_cons]
    rw [List.getElem?_append_right (by rw [hk]; omega), hk, show (r + 1) * k + j - k = r * k + j by omega, ih]
    simp
theorem flat_length {α : Type} (f : α → List Value) (k : Nat) (hk : ∀ x, (f x).length = k) (l : List α) : ((l.map f).flatten).length = l.length * k := by
  induction l with
  | nil => simp
  | cons c cs ih => simp only [List.map_cons, List.flatten_cons, List.length_append, List.length_cons, ih, hk, Nat.succ_mul]; omega
/-- Field j of element r. -/
theorem own_field {α : Type} (f : α → List Value) {k : Nat} (hk : ∀ x, (f x).length = k) {w : World} {base g n cap : Nat} {e : TypeId} {l : List α} (h : w.ownsRow base e k (.slice (some ⟨g, 0, none⟩) n cap) n ((l.map f).flatten)) (r j : Nat) (d : α) {v : Value} (hr : r < l.length) (hj : j < k) (hv : (f (l.getD r d))[j]? = some v) : w.cell? ⟨g, r * k + j, none⟩ = some v := by
  have hlt : r * k + j < ((l.map f).flatten).length := by
    rw [flat_length f k hk]
    have : (r + 1) * k ≤ l.length * k := Nat.mul_le_mul_right k hr
    rw [Nat.succ_mul] at this
    omega
  have hl := h.1
  have := h.cellAt (r * k + j) (by omega)
  rw [flat_atF f k hk l r j d hr hj, hv] at this
  exact this
theorem own_soft1 {w : World} {base g n c : Nat} {ty : TypeId} {sz : Nat} {xs : List Value} (h : w.ownsRow base ty sz (.slice (some ⟨g, 0, none⟩) n c) n xs) (j : Nat) : w.frozen? ⟨g, j, none⟩ = false := h.frozenAt j
theorem own_pos {w : World} {base : Nat} {e : TypeId} {size : Nat} {a : Option Addr} {m c n : Nat} {xs : List Value} (h : w.ownsRow base e size (.slice a m c) n xs) (hn : 0 < n) : ∃ g, a = some ⟨g, 0, none⟩ ∧ base ≤ g ∧ g < w.heap.size := by
  rcases h.2 with ⟨_, h0⟩ | ⟨g, cap, cur, e1, h2, h3, _⟩
  · omega
  · injection e1 with e1 e2 e3
    exact ⟨g, e1, h2, (Array.getElem?_eq_some_iff.1 h3).1⟩
end Go.Proofs.YtppinnjdaoaddaaGreatDoor

set_option linter.unusedVariables false
set_option linter.unusedSimpArgs false
namespace Go.Proofs.YtppinnjdaoaddaaGreatDoor
open Go.RowKit Go.Sort Go.Lib

theorem flatK_list {α : Type} [Inhabited α] (enc : α → List Value) {k : Nat} (hk : ∀ x, (enc x).length = k) (h0 : 0 < k) (l : List α) : (flatK enc k l.toArray).toList = (l.map enc).flatten := by
  have hL := flat_length enc k hk l
  apply List.ext_getElem?
  intro t
  by_cases ht : t < l.length * k
  · have hd : t / k < l.length := (Nat.div_lt_iff_lt_mul h0).2 ht
    have hm : t % k < k := Nat.mod_lt _ h0
    have h1 := flat_atF enc k hk l (t / k) (t % k) default hd hm
    rw [show t / k * k + t % k = t from Nat.div_add_mod' t k] at h1
    rw [h1, Array.getElem?_toList]
    have hs : t < (flatK enc k l.toArray).size := by simpa using ht
    have h2 := get_flatK enc k l.toArray t (by simpa using ht)
    rw [Array.getElem?_eq_getElem hs]
    rw [getElem!_pos _ t hs] at h2
    rw [h2]
    have e1 : l.toArray[t / k]! = l.getD (t / k) default := by simp [List.getD_eq_getElem?_getD, hd]
    rw [e1]
    have hm2 : t % k < (enc (l.getD (t / k) default)).length := by rw [hk]; exact hm
    rw [List.getElem?_eq_getElem hm2]
    congr 1
    exact getElem!_pos (enc (l.getD (t / k) default)) (t % k) hm2
  · rw [List.getElem?_eq_none (show (flatK enc k l.toArray).toList.length ≤ t by rw [Array.length_toList, size_flatK, List.size_toArray]; omega), List.getElem?_eq_none (by rw [hL]; omega)]
theorem holdsK_own {α : Type} [Inhabited α] (enc : α → List Value) {k : Nat} (hk : ∀ x, (enc x).length = k) (h0 : 0 < k) {w : World} {base g n cap : Nat} {e : TypeId} {l : List α} (h : w.ownsRow base e k (.slice (some ⟨g, 0, none⟩) n cap) n ((l.map enc).flatten)) : HoldsK enc k w g 0 l.toArray := fun t ht => by
  have hL := flat_length enc k hk l
  have hn := h.1
  have ht' : t < l.length * k := by simpa using ht
  refine ⟨?_, h.frozenAt _⟩
  rw [Nat.zero_add, h.cellAt t (by omega), ← flatK_list enc hk h0 l, Array.getElem?_toList, Array.getElem?_eq_getElem ht, getElem!_pos _ t ht]
  rfl
theorem own_putK {α : Type} [Inhabited α] (enc : α → List Value) {k : Nat} (hk : ∀ x, (enc x).length = k) (h0 : 0 < k) {w : World} {base g n cap : Nat} {e : TypeId} {l ys : List α} (h : w.ownsRow base e k (.slice (some ⟨g, 0, none⟩) n cap) n ((l.map enc).flatten)) (hy : ys.length = l.length) (q : Nat) (os : Array Obj) :
    (sortWorldK enc k w g 0 q ys.toArray os).ownsRow base e k (.slice (some ⟨g, 0, none⟩) n cap) n ((ys.map enc).flatten) := by
  have hL := flat_length enc k hk l
  have hY := flat_length enc k hk ys
  have hn := h.1
  rcases h.2 with ⟨e0, _⟩ | ⟨g', cap', cur, e0, hb, hg, hcn, hm, hs, ht⟩
  · cases e0
  · injection e0 with e1 _ e3
    injection e1 with e1
    injection e1 with e1
    subst e1; subst e3
    have hlt : g < w.heap.size := (Array.getElem?_eq_some_iff.1 hg).1
    have hcur : n * k ≤ cur.size := by rw [hs]; exact Nat.mul_le_mul_right k hcn
    have hF : (flatK enc k ys.toArray).size = n * k := by rw [size_flatK, List.size_toArray, hy]; omega
    refine ⟨by rw [hY, hy]; omega, .inr ⟨g, cap, putCells id 0 (flatK enc k ys.toArray) cur, rfl, hb, ?_, hcn, hm, by simpa [putCells] using hs, ?_⟩⟩
    · unfold sortWorldK grow putRowK putRow mapBlock Sort.ahead
      rw [Array.getElem?_append_left (by simpa using hlt)]
      simp [Array.getElem?_modify, hg, onCells]
    · rw [← flatK_list enc hk h0 ys]
      apply List.ext_getElem?
      intro j
      rw [List.getElem?_take]
      by_cases hj : j < n * k
      · have hjc : j < cur.size := by omega
        have hjF : j < (flatK enc k ys.toArray).size := by omega
        rw [if_pos hj, Array.getElem?_toList, Array.getElem?_toList]
        simp only [putCells, Array.getElem?_mapIdx, Array.getElem?_eq_getElem hjc, Option.map_some]
        rw [if_pos ⟨Nat.zero_le _, by omega⟩, Array.getElem?_eq_getElem hjF]
        simp only [Nat.sub_zero, id]
        congr 1
        exact getElem!_pos _ j hjF
      · rw [if_neg hj, List.getElem?_eq_none (by rw [Array.length_toList]; omega)]
theorem below_sortK {α : Type} [Inhabited α] (enc : α → List Value) (k : Nat) {w0 w : World} {B g q : Nat} {d : Array α} (os : Array Obj) (h : Below B w0 w) (hg : B ≤ g) (hB : B ≤ w.heap.size) : Below B w0 (sortWorldK enc k w g 0 q d os) := by
  refine ⟨h.os, h.tape, h.output, ?_, fun i hi => ?_⟩
  · have := h.size
    unfold sortWorldK grow putRowK putRow mapBlock Sort.ahead
    simp
    omega
  · rw [← h.block i hi]
    unfold sortWorldK grow putRowK putRow mapBlock Sort.ahead
    rw [Array.getElem?_append_left (by simp; omega)]
    simp [Array.getElem?_modify, show g ≠ i by omega]
theorem insInnerK_size {α : Type} [Inhabited α] (lt : α → α → Bool) (a : Nat) : ∀ (j : Nat) (d : Array α), (insInner lt a j d).size = d.size
  | 0, d => by unfold insInner; rfl
  | j + 1, d => by
    unfold insInner
    split
    · rw [insInnerK_size lt a j, swp_size]
    · rfl
theorem insOuterK_size {α : Type} [Inhabited α] (lt : α → α → Bool) (a b : Nat) : ∀ (m i : Nat) (d : Array α), b - i ≤ m → (insOuter lt a b i d).size = d.size := by
  intro m
  induction m with
  | zero =>
    intro i d h
    unfold insOuter
    rw [if_neg (by omega)]
  | succ m ih =>
    intro i d h
    unfold insOuter
    split
    · rw [ih _ _ (by omega), insInnerK_size]
    · rfl
/-- A list sorted by insertion. -/
def insL {α : Type} [Inhabited α] (lt : α → α → Bool) (l : List α) : List α := (insertionSort lt l.toArray 0 l.length).toList
theorem insL_len {α : Type} [Inhabited α] (lt : α → α → Bool) (l : List α) : (insL lt l).length = l.length := by
  unfold insL insertionSort
  rw [Array.length_toList, insOuterK_size _ _ _ _ _ _ (Nat.le_refl _)]
  simp
theorem insL_arr {α : Type} [Inhabited α] (lt : α → α → Bool) (l : List α) : insertionSort lt l.toArray 0 l.length = (insL lt l).toArray := by
  unfold insL
  simp
/-- Up to three elements: two orders that agree where a later one is compared with an earlier one sort alike. -/
theorem insL_same {α : Type} [Inhabited α] (lt lt2 : α → α → Bool) (l : List α) (hl : l.length ≤ 3) (h : ∀ i j, i < j → j < l.length → lt (l.getD j default) (l.getD i default) = lt2 (l.getD j default) (l.getD i default)) : insL lt l = insL lt2 l := by
  match l, hl with
  | [], _ =>
    unfold insL insertionSort insOuter
    simp
  | [x], _ =>
    unfold insL insertionSort insOuter
    simp
  | [x, y], _ =>
    have h1 := h 0 1 (by omega) (by simp)
    simp only [List.getD_cons_zero, List.getD_cons_succ] at h1
    have e : ∀ lt : α → α → Bool, insL lt [x, y] = if lt y x = true then [y, x] else [x, y] := fun lt => by
      unfold insL insertionSort
      rw [insOuter, if_pos (by simp), insOuter, if_neg (by simp)]
      cases hq : lt y x <;> simp [insInner, swp, hq]
    rw [e, e, h1]
  | [x, y, z], _ =>
    have h1 := h 0 1 (by omega) (by simp)
    have h2 := h 0 2 (by omega) (by simp)
    have h3 := h 1 2 (by omega) (by simp)
    simp only [List.getD_cons_zero, List.getD_cons_succ] at h1 h2 h3
    have e : ∀ lt : α → α → Bool, insL lt [x, y, z] = if lt y x = true then (if lt z x = true then (if lt z y = true then [z, y, x] else [y, z, x]) else [y, x, z]) else (if lt z y = true then (if lt z x = true then [z, x, y] else [x, z, y]) else [x, y, z]) := fun lt => by
      unfold insL insertionSort
      rw [insOuter, if_pos (by simp), insOuter, if_pos (by simp), insOuter, if_neg (by simp)]
      cases hq : lt y x <;> cases hr : lt z x <;> cases ht : lt z y <;> simp [insInner, swp, hq, hr, ht]
    rw [e, e, h1, h2, h3]
end Go.Proofs.YtppinnjdaoaddaaGreatDoor

set_option linter.unusedVariables false
set_option linter.unusedSimpArgs false
namespace Go.Proofs.YtppinnjdaoaddaaGreatDoor
open Go.RowKit Go.Sort Go.Lib

set_option maxRecDepth 100000 in
theorem orInt_any (a b : Int) (B : Nat) (w : World) (hB : B < w.heap.size) (h0 : w.cell? ⟨B, 0, none⟩ = some (.int .i64 a)) (h1 : w.cell? ⟨B, 1, none⟩ = some (.int .i64 b)) : Calls Tryz.prog 81 #[.slice (some ⟨B, 0, none⟩) 2 2] w fun r w' => r = .returned (.int .i64 (firstE a b)) ∧ w = w' := by
  by_cases ha : a = 0
  · subst ha
    by_cases hb : b = 0
    · subst hb
      go_enter Tryz.func81, Tryz.ntmps81
      go_wp2_with fail
      go_loopw [8] (fun i wr => ∃ k : Nat, k ≤ 2 ∧ i = .int .i64 k ∧ wr = w) (fun i _ => 2 - (intOf i).toNat)
      case atStart => exact ⟨0, by omega, rfl, rfl⟩
      case round =>
        obtain ⟨k, hk, rfl, rfl⟩ := hrel
        have hkc : k = 0 ∨ k = 1 ∨ k = 2 := by omega
        rcases hkc with rfl | rfl | rfl
        · go_wp2_with fail
          go_roundw
          case rel => exact ⟨1, by omega, by go_num, trivial⟩
          case measure => simp [intOf]
        · go_wp2_with fail
          go_roundw
          case rel => exact ⟨2, by omega, by go_num, trivial⟩
          case measure => simp [intOf]
        · go_wp2_with fail
          go_ret
          exact ⟨rfl, rfl⟩
    · have hbb : (b == 0) = false := by simpa using hb
      go_enter Tryz.func81, Tryz.ntmps81
      go_wp2_with fail
      go_loopw [8] (fun i wr => ∃ k : Nat, k ≤ 1 ∧ i = .int .i64 k ∧ wr = w) (fun i _ => 2 - (intOf i).toNat)
      case atStart => exact ⟨0, by omega, rfl, rfl⟩
      case round =>
        obtain ⟨k, hk, rfl, rfl⟩ := hrel
        have hkc : k = 0 ∨ k = 1 := by omega
        rcases hkc with rfl | rfl
        · go_wp2_with fail
          go_roundw
          case rel => exact ⟨1, by omega, by go_num, trivial⟩
          case measure => simp [intOf]
        · go_wp2_with fail
          go_ret
          exact ⟨rfl, rfl⟩
  · have hab : (a == 0) = false := by simpa using ha
    have HF : Hid (firstE a b = a) := by show _ = _; unfold firstE; rw [if_pos ha]
    go_enter Tryz.func81, Tryz.ntmps81
    go_wp2_with fail
    go_loopw [8] (fun i wr => i = .int .i64 0 ∧ wr = w) (fun i _ => 0)
    case atStart => exact ⟨rfl, rfl⟩
    case round =>
      obtain ⟨rfl, rfl⟩ := hrel
      go_wp2_with fail
      go_ret
      exact ⟨by rw [HF.out]; rfl, rfl⟩
/-- What a call costs by a carrier's decks. -/
def costV (ps : List Deck) (s : List UInt8) (t talk : Int) : Int × Bool := match deckV ps t with | none => (0, false) | some d => priceV d.setup d.least d.step d.rates s talk
set_option maxRecDepth 100000 in
set_option maxHeartbeats 4000000 in
theorem costBy_any (w : World) (ky : List UInt8) (ln : Int) (a : Option Addr) (m cap : Nat) (ps : List Deck) (hp : DeckRow w a m ps) (hcap : m ≤ cap) (s : List UInt8) (hs : s.length ≤ 1000) (t talk : Int) (hg : ∀ d, deckV ps t = some d → DeckGood d.setup d.least d.step d.rates) (h5 : 0 ≤ talk ∧ talk ≤ 86400000) :
    Calls Tryz.prog 84 #[.agg #[.string ⟨ky.toArray⟩, .int .i64 ln, .slice a m cap], .string ⟨s.toArray⟩, .int .i64 t, .int .i64 talk] w (PriceOfPost (costV ps s t talk) w) := by
  have HDA := Lib.hid (fun W (h : Below w.heap.size w W) => deckAt_any W ky ln a m cap ps (hp.below h) hcap t)
  have HRF := Lib.hid (fun W (h : Below w.heap.size w W) => deckV_fineR (hp.below h) t)
  have HG := Lib.hid hg
  have HC : Hid (costV ps s t talk = match deckV ps t with | none => (0, false) | some d => priceV d.setup d.least d.step d.rates s talk) := rfl
  generalize costV ps s t talk = V at HC ⊢
  clear hg hp
  generalize deckV ps t = o at HDA HRF HG HC
  go_enter Tryz.func84, Tryz.ntmps84
  go_upto_region 1 with (fail)
  have HB : Hid (Below w.heap.size w (w.alloc (.cells #[.string ⟨ky.toArray⟩, .int .i64 ln, .slice a m cap] 72))) := ext_alloc (Below.refl _ _)
  have HX : Hid (Blk (w.alloc (.cells #[.string ⟨ky.toArray⟩, .int .i64 ln, .slice a m cap] 72)) w.heap.size [.string ⟨ky.toArray⟩, .int .i64 ln, .slice a m cap] 72) := Blk.new w [.string ⟨ky.toArray⟩, .int .i64 ln, .slice a m cap] 72
  generalize w.alloc (.cells #[.string ⟨ky.toArray⟩, .int .i64 ln, .slice a m cap] 72) = W at HB HX ⊢
  have x0 := HX.out.cell 0 rfl
  have x1 := HX.out.cell 1 rfl
  have x2 := HX.out.cell 2 rfl
  clear HX
  as_aux_lemma =>
    go_wp2_with fail
    refine (HDA.out _ HB.out).mono ?_
    rintro e w1 ⟨rfl, hb⟩
    have HB1 := Lib.hid (ext_trans HB.out hb)
    clear hb HB HDA x0 x1 x2
    have HR1 := Lib.hid (HRF.out _ HB1.out)
    clear HRF
    cases o with
    | none =>
      obtain rfl : V = (0, false) := HC.out
      clear HC HG HR1
      have hb : Below w.heap.size w (w1.alloc (.cells #[.int .i64 0, .int .i64 0, .int .i64 0, .int .i64 0, .slice none 0 0] 63)) := ext_alloc HB1.out
      skip
      as_aux_lemma =>
        go_wp2_with fail
        go_ret2
        exact ⟨rfl, by first | exact hb | exact (by (try show Below _ _ _); repeat (with_reducible first | exact Below.refl _ _ | assumption | exact Hid.out (by assumption) | refine ext_alloc ?_ | refine ext_drewN ?_ | refine ext_drew ?_ | refine ext_setCell ?_ (Nat.le_refl _) | refine ext_setCell ?_ (Nat.le_succ _) | refine ext_trans ?_ (by assumption) | (refine ext_setCell ?_ (by simp)) | (refine ext_setCell ?_ (by simp at *; omega))))⟩
    | some d =>
      have hgd := HG.out d rfl
      obtain ⟨df, ds, dl, dp, ra, rn, rc, rates⟩ := d
      obtain rfl : V = priceV ds dl dp rates s talk := HC.out
      simp only [Option.getD_some, Option.isSome_some] at HR1 ⊢
      have HTX : Hid ((w1.alloc (.cells #[.int .i64 0, .int .i64 0, .int .i64 0, .int .i64 0, .slice none 0 0] 63)).there w1.heap.size 0 5) := (Blk.new w1 [.int .i64 0, .int .i64 0, .int .i64 0, .int .i64 0, .slice none 0 0] 63).th 5 (by decide)
      have HX4 : Hid (Blk (World.setCells (w1.alloc (.cells #[.int .i64 0, .int .i64 0, .int .i64 0, .int .i64 0, .slice none 0 0] 63)) w1.heap.size 0 [.int .i64 df, .int .i64 ds, .int .i64 dl, .int .i64 dp, .slice ra rn rc]) w1.heap.size [.int .i64 df, .int .i64 ds, .int .i64 dl, .int .i64 dp, .slice ra rn rc] 63) := ((((((Blk.new w1 [.int .i64 0, .int .i64 0, .int .i64 0, .int .i64 0, .slice none 0 0] 63).put 0 _).put 1 _).put 2 _).put 3 _).put 4 _)
      have hA : Below w1.heap.size w1 (World.setCells (w1.alloc (.cells #[.int .i64 0, .int .i64 0, .int .i64 0, .int .i64 0, .slice none 0 0] 63)) w1.heap.size 0 [.int .i64 df, .int .i64 ds, .int .i64 dl, .int .i64 dp, .slice ra rn rc]) := below5 (Nat.le_refl _) (ext_alloc (Below.refl _ _)) _
      have HB4 := Lib.hid (ext_trans HB1.out hA)
      have HR4 : Hid (RateRow (World.setCells (w1.alloc (.cells #[.int .i64 0, .int .i64 0, .int .i64 0, .int .i64 0, .slice none 0 0] 63)) w1.heap.size 0 [.int .i64 df, .int .i64 ds, .int .i64 dl, .int .i64 dp, .slice ra rn rc]) ra rn rates) := HR1.out.below hA
      clear hA HC HG HR1 HB1
      as_aux_lemma =>
        go_upto_region 2 with (refine wpList_store_mid rfl 63 (.tmp 10) (.tmp 16) rfl w1.heap.size 0 #[.int .i64 df, .int .i64 ds, .int .i64 dl, .int .i64 dp, .slice ra rn rc] rfl rfl HTX.out Tryz.deckSz (by simp [Value.oneCell']) ?_; generalize World.setCells (w1.alloc (.cells #[.int .i64 0, .int .i64 0, .int .i64 0, .int .i64 0, .slice none 0 0] 63)) w1.heap.size 0 _ = w4 at HX4 HB4 HR4 ⊢)
        generalize w1.heap.size = D at HX4 ⊢
        clear HTX
        have HRX : Hid (w4.rangeAt D 0 [.int .i64 df, .int .i64 ds, .int .i64 dl, .int .i64 dp, .slice ra rn rc]) := fun j v hj => by rw [Nat.zero_add]; exact HX4.out.cell j hj
        clear HX4
        as_aux_lemma =>
          go_wp2_with (refine wpList_load_mid rfl 63 (.tmp 10) rfl D 0 rfl [.int .i64 df, .int .i64 ds, .int .i64 dl, .int .i64 dp, .slice ra rn rc] _ HRX.out Tryz.underlying63 rfl Tryz.deckSz ?_)
          refine (priceOf_any _ df ds dl dp ra rn rc rates s talk HR4.out hgd hs h5).mono ?_
          rintro e w5 ⟨rfl, hb⟩
          have HB5 := Lib.hid (ext_trans HB4.out hb)
          clear hb HB4 HR4
          as_aux_lemma =>
            go_wp2_with fail
            go_ret2
            exact ⟨rfl, HB5.out⟩

/-- An offer. -/
structure Off where
  c : List UInt8
  price : Int
def noOff : Off := ⟨[], 0⟩
instance : Inhabited Off := ⟨noOff⟩
def Off.cells (x : Off) : List Value := [.string ⟨x.c.toArray⟩, .int .i64 x.price]
def cfP (x y : Off) : Int := Lib.compareInt x.price y.price
def cfPC (x y : Off) : Int := firstE (Lib.compareInt x.price y.price) (Lib.compareBytes x.c y.c)
theorem grow_two (W : World) (o1 o2 : Obj) : (W.alloc o1).alloc o2 = grow (W.drewN 0) #[o1, o2] := by
  rw [alloc_eq_grow, alloc_eq_grow, grow_grow]
  rfl
theorem bs_ii (e : Operand → Value) (o : Oper) (w : World) (i0 i1 : Nat) (z0 z1 : Int) (ho : o.op = .buildSlice 22 2 #[(0, .tmp i0), (1, .tmp i1)]) (h0 : e (.tmp i0) = .int .i64 z0) (h1 : e (.tmp i1) = .int .i64 z1) :
   (execOp e o).run Tryz.prog w = .ok (.value (.slice (some ⟨w.heap.size, 0, none⟩) 2 2)) (w.alloc (.cells #[.int .i64 z0, .int .i64 z1] 3)) := by
  unfold execOp
  rw [ho]
  simp only [List.map_toArray, List.map_cons, List.map_nil, h0, h1]
  kernel_rfl
theorem grow_three (W : World) (a b o : Obj) : ((((W.alloc a).alloc b).drew).alloc o) = grow (W.drewN 1) #[a, b, o] := by
  rw [alloc_eq_grow W a, alloc_eq_grow _ b, grow_grow]
  show (grow (W.drewN 1) (#[a] ++ #[b])).alloc o = _
  rw [alloc_eq_grow, grow_grow]
  rfl
theorem cmpP_any (x y : Off) (W : World) : Calls Tryz.prog 104 #[.agg (Off.cells x).toArray, .agg (Off.cells y).toArray] W fun e w' => e = .returned (.int .i64 (cfP x y)) ∧ ∃ q os', w' = grow (W.drewN q) os' := by
  obtain ⟨xc, xp⟩ := x
  obtain ⟨yc, yp⟩ := y
  have hcon := fun w => Tryz.cmp_Compare xp yp w
  have HG := Lib.hid (grow_two W (.cells #[.string ⟨xc.toArray⟩, .int .i64 xp] 80) (.cells #[.string ⟨yc.toArray⟩, .int .i64 yp] 80))
  show Calls Tryz.prog 104 #[.agg #[.string ⟨xc.toArray⟩, .int .i64 xp], .agg #[.string ⟨yc.toArray⟩, .int .i64 yp]] W fun e w' => e = .returned (.int .i64 (Lib.compareInt xp yp)) ∧ ∃ q os', w' = grow (W.drewN q) os'
  generalize Lib.compareInt xp yp = r at hcon ⊢
  go_enter Tryz.func104, Tryz.ntmps104
  go_wp2_with fail
  refine (hcon _).mono ?_
  rintro e w' ⟨rfl, rfl⟩
  go_wp2_with fail
  go_ret
  exact ⟨rfl, 0, _, HG.out⟩
set_option maxRecDepth 100000 in
set_option maxHeartbeats 4000000 in
theorem cmpPC_any (x y : Off) (W : World) : Calls Tryz.prog 80 #[.agg (Off.cells x).toArray, .agg (Off.cells y).toArray] W fun e w' => e = .returned (.int .i64 (cfPC x y)) ∧ ∃ q os', w' = grow (W.drewN q) os' := by
  obtain ⟨xc, xp⟩ := x
  obtain ⟨yc, yp⟩ := y
  have hcon := fun w => Tryz.cmp_Compare xp yp w
  have hcon2 : ∀ w, Calls _ _ #[.string ⟨xc.toArray⟩, .string ⟨yc.toArray⟩] w fun e w' => e = .returned (.int .i64 (Lib.compareBytes xc yc)) ∧ w' = w := fun w => Tryz.strings_Compare ⟨xc.toArray⟩ ⟨yc.toArray⟩ w
  show Calls Tryz.prog 80 #[.agg #[.string ⟨xc.toArray⟩, .int .i64 xp], .agg #[.string ⟨yc.toArray⟩, .int .i64 yp]] W fun e w' => e = .returned (.int .i64 (firstE (Lib.compareInt xp yp) (Lib.compareBytes xc yc))) ∧ ∃ q os', w' = grow (W.drewN q) os'
  generalize Lib.compareInt xp yp = r at hcon ⊢
  generalize Lib.compareBytes xc yc = r2 at hcon2 ⊢
  go_enter Tryz.func80, Tryz.ntmps80
  go_upto_region 1 with (fail)
  have HGR : Hid (∀ o, ((((W.alloc (.cells #[.string ⟨xc.toArray⟩, .int .i64 xp] 80)).alloc (.cells #[.string ⟨yc.toArray⟩, .int .i64 yp] 80)).drew).alloc o) = grow (W.drewN 1) #[.cells #[.string ⟨xc.toArray⟩, .int .i64 xp] 80, .cells #[.string ⟨yc.toArray⟩, .int .i64 yp] 80, o]) := fun o => grow_three W _ _ o
  have hS : (fun W9 : World => W9.cell? ⟨W.heap.size, 0, none⟩ = some (.string ⟨xc.toArray⟩) ∧ W9.cell? ⟨W.heap.size, 1, none⟩ = some (.int .i64 xp) ∧ W9.cell? ⟨W.heap.size + 1, 0, none⟩ = some (.string ⟨yc.toArray⟩) ∧ W9.cell? ⟨W.heap.size + 1, 1, none⟩ = some (.int .i64 yp)) ((W.alloc (.cells #[.string ⟨xc.toArray⟩, .int .i64 xp] 80)).alloc (.cells #[.string ⟨yc.toArray⟩, .int .i64 yp] 80)).drew := ⟨by go_simp, by go_simp, by go_simp, by go_simp⟩
  have hsz : ((W.alloc (.cells #[.string ⟨xc.toArray⟩, .int .i64 xp] 80)).alloc (.cells #[.string ⟨yc.toArray⟩, .int .i64 yp] 80)).heap.size = W.heap.size + 2 := by simp
  generalize ((W.alloc (.cells #[.string ⟨xc.toArray⟩, .int .i64 xp] 80)).alloc (.cells #[.string ⟨yc.toArray⟩, .int .i64 yp] 80)) = WB at HGR hS hsz ⊢
  generalize W.heap.size = B at hS hsz ⊢
  refine region_seqI (S := fun W9 : World => W9.cell? ⟨B, 0, none⟩ = some (.string ⟨xc.toArray⟩) ∧ W9.cell? ⟨B, 1, none⟩ = some (.int .i64 xp) ∧ W9.cell? ⟨B + 1, 0, none⟩ = some (.string ⟨yc.toArray⟩) ∧ W9.cell? ⟨B + 1, 1, none⟩ = some (.int .i64 yp)) [(true, 0), (true, 1), (true, 2), (true, 3), (true, 5), (true, 6), (true, 7), (true, 8), (false, 4), (false, 9), (false, 10), (false, 11), (true, 12)] (by kernel_rfl) (by kernel_rfl) rfl (by kernel_rfl) hS ?_
  simp only [seqOps, List.getD_cons_zero, List.getD_cons_succ]
  refine seqI_take (v := .pointer (some ⟨B, 1, none⟩)) rfl (fun W hW => by obtain ⟨m0, m1, m2, m3⟩ := hW; go_simp) (fun _ _ _ h => h) ?_
  simp only [Act.put, List.setIfInBounds_toArray, List.set_cons_zero, List.set_cons_succ]
  refine seqI_take (v := .int .i64 xp) rfl (fun W hW => by obtain ⟨m0, m1, m2, m3⟩ := hW; go_simp) (fun _ _ _ h => h) ?_
  simp only [Act.put, List.setIfInBounds_toArray, List.set_cons_zero, List.set_cons_succ]
  refine seqI_take (v := .pointer (some ⟨B + 1, 1, none⟩)) rfl (fun W hW => by obtain ⟨m0, m1, m2, m3⟩ := hW; go_simp) (fun _ _ _ h => h) ?_
  simp only [Act.put, List.setIfInBounds_toArray, List.set_cons_zero, List.set_cons_succ]
  refine seqI_take (v := .int .i64 yp) rfl (fun W hW => by obtain ⟨m0, m1, m2, m3⟩ := hW; go_simp) (fun _ _ _ h => h) ?_
  simp only [Act.put, List.setIfInBounds_toArray, List.set_cons_zero, List.set_cons_succ]
  refine seqI_take (v := .pointer (some ⟨B, 0, none⟩)) rfl (fun W hW => by obtain ⟨m0, m1, m2, m3⟩ := hW; go_simp) (fun _ _ _ h => h) ?_
  simp only [Act.put, List.setIfInBounds_toArray, List.set_cons_zero, List.set_cons_succ]
  refine seqI_take (v := .string ⟨xc.toArray⟩) rfl (fun W hW => by obtain ⟨m0, m1, m2, m3⟩ := hW; go_simp) (fun _ _ _ h => h) ?_
  simp only [Act.put, List.setIfInBounds_toArray, List.set_cons_zero, List.set_cons_succ]
  refine seqI_take (v := .pointer (some ⟨B + 1, 0, none⟩)) rfl (fun W hW => by obtain ⟨m0, m1, m2, m3⟩ := hW; go_simp) (fun _ _ _ h => h) ?_
  simp only [Act.put, List.setIfInBounds_toArray, List.set_cons_zero, List.set_cons_succ]
  refine seqI_take (v := .string ⟨yc.toArray⟩) rfl (fun W hW => by obtain ⟨m0, m1, m2, m3⟩ := hW; go_simp) (fun _ _ _ h => h) ?_
  simp only [Act.put, List.setIfInBounds_toArray, List.set_cons_zero, List.set_cons_succ]
  refine seqI_call 82 #[.int .i64 xp, .int .i64 yp] rfl (by go_simp) (hcon _) ?_
  rintro e w6 ⟨rfl, rfl⟩
  refine ⟨_, rfl, hS, ?_⟩
  simp only [Act.put, List.setIfInBounds_toArray, List.set_cons_zero, List.set_cons_succ]
  refine seqI_call 83 #[.string ⟨xc.toArray⟩, .string ⟨yc.toArray⟩] rfl (by go_simp) (hcon2 _) ?_
  rintro e w6 ⟨rfl, rfl⟩
  refine ⟨_, rfl, hS, ?_⟩
  simp only [Act.put, List.setIfInBounds_toArray, List.set_cons_zero, List.set_cons_succ]
  refine seqI_do rfl (wp_val (bs_ii _ _ _ 9 14 r r2 rfl rfl rfl) ⟨?_, ?_⟩)
  · obtain ⟨m0, m1, m2, m3⟩ := hS
    have hB1 : WB.drew.heap.size = B + 2 := hsz
    have hb : Below WB.drew.heap.size WB.drew (WB.drew.alloc (.cells #[.int .i64 r, .int .i64 r2] 3)) := ext_alloc (Below.refl _ _)
    exact ⟨(hb.cell (p := ⟨B, 0, none⟩) (by show B < WB.drew.heap.size; rw [hB1]; omega)).trans m0, (hb.cell (p := ⟨B, 1, none⟩) (by show B < WB.drew.heap.size; rw [hB1]; omega)).trans m1, (hb.cell (p := ⟨B + 1, 0, none⟩) (by show B + 1 < WB.drew.heap.size; rw [hB1]; omega)).trans m2, (hb.cell (p := ⟨B + 1, 1, none⟩) (by show B + 1 < WB.drew.heap.size; rw [hB1]; omega)).trans m3⟩
  simp only [Act.put, List.setIfInBounds_toArray, List.set_cons_zero, List.set_cons_succ]
  refine seqI_call 81 #[.slice (some ⟨WB.drew.heap.size, 0, none⟩) 2 2] rfl (by go_simp) (orInt_any r r2 WB.drew.heap.size _ (by simp) (by go_simp) (by go_simp)) ?_
  rintro e w6 ⟨rfl, rfl⟩
  refine ⟨_, rfl, ?_, ?_⟩
  · obtain ⟨m0, m1, m2, m3⟩ := hS
    have hB1 : WB.drew.heap.size = B + 2 := hsz
    have hb : Below WB.drew.heap.size WB.drew (WB.drew.alloc (.cells #[.int .i64 r, .int .i64 r2] 3)) := ext_alloc (Below.refl _ _)
    exact ⟨(hb.cell (p := ⟨B, 0, none⟩) (by show B < WB.drew.heap.size; rw [hB1]; omega)).trans m0, (hb.cell (p := ⟨B, 1, none⟩) (by show B < WB.drew.heap.size; rw [hB1]; omega)).trans m1, (hb.cell (p := ⟨B + 1, 0, none⟩) (by show B + 1 < WB.drew.heap.size; rw [hB1]; omega)).trans m2, (hb.cell (p := ⟨B + 1, 1, none⟩) (by show B + 1 < WB.drew.heap.size; rw [hB1]; omega)).trans m3⟩
  simp only [Act.put, List.setIfInBounds_toArray, List.set_cons_zero, List.set_cons_succ]
  refine seqI_take (v := .int .i64 (firstE r r2)) rfl (fun W hW => by clear hW; go_simp) (fun _ _ _ h => h) ?_
  simp only [Act.put, List.setIfInBounds_toArray, List.set_cons_zero, List.set_cons_succ]
  refine seqI_nil ?_
  go_wp2_with fail
  go_ret
  exact ⟨rfl, 1, _, HGR.out _⟩
end Go.Proofs.YtppinnjdaoaddaaGreatDoor

set_option linter.unusedVariables false
set_option linter.unusedSimpArgs false
namespace Go.Proofs.YtppinnjdaoaddaaGreatDoor
open Go.RowKit Go.Sort Go.Lib

def OffRow (w : World) (base : Nat) (v : Value) (l : List Off) : Prop := w.ownsRow base 80 2 v l.length ((l.map Off.cells).flatten)
def SortPost (base : Nat) (v : Value) (l : List Off) (w : World) (e : Ending) (w' : World) : Prop := e = .returned (.tuple #[]) ∧ OffRow w' base v l ∧ Below base w w'
theorem off_one : ∀ (x : Off), ∀ v ∈ Off.cells x, v.oneCell' = true := fun x v hv => by
  simp only [Off.cells, List.mem_cons, List.not_mem_nil, or_false] at hv
  rcases hv with rfl | rfl <;> rfl
theorem cmpP_lays (blk size : Nat) (w : World) : CmpLays Tryz.prog 104 #[] Off.cells 2 cfP blk 0 size w := fun m os dk _ x y => cmpP_any x y _
theorem cmpPC_lays (blk size : Nat) (w : World) : CmpLays Tryz.prog 80 #[] Off.cells 2 cfPC blk 0 size w := fun m os dk _ x y => cmpPC_any x y _
/-- Nothing is sorted. -/
theorem insO_nil (c : Nat) (a : Option Addr) (fv : Value) (w : World) : Calls Tryz.prog 138 #[.slice a 0 c, .int .i64 0, .int .i64 0, fv] w fun e w' => e = .returned (.tuple #[]) ∧ w = w' := by
  go_enter Tryz.func138, Tryz.ntmps138
  go_wp2_with fail
  go_loopw [8] (fun i wr => i = .int .i64 1 ∧ wr = w) (fun _ _ => 0)
  case atStart => exact ⟨rfl, rfl⟩
  case round =>
    obtain ⟨rfl, rfl⟩ := hrel
    go_wp2_with fail
    go_end0
    exact ⟨rfl, rfl⟩
theorem pdqO_nil (c : Nat) (a : Option Addr) (lim : Int) (fv : Value) (w : World) : Calls Tryz.prog 107 #[.slice a 0 c, .int .i64 0, .int .i64 0, .int .i64 lim, fv] w fun e w' => e = .returned (.tuple #[]) ∧ w = w' := by
  go_enter Tryz.func107, Tryz.ntmps107
  go_wp2_with fail
  go_loopw [1, 2] (fun x1 x2 wr => x1 = .int .i64 0 ∧ x2 = .int .i64 0 ∧ wr = w) (fun _ _ _ => 0)
  case atStart => exact ⟨rfl, rfl, rfl⟩
  case round =>
    obtain ⟨rfl, rfl, rfl⟩ := hrel
    go_wp2_with fail
    refine (insO_nil c a fv _).mono ?_
    rintro e w' ⟨rfl, rfl⟩
    go_wp2_with fail
    refine bodyPost_ret (results_none rfl _ _ _) rfl ?_
    exact ⟨rfl, rfl⟩
theorem sortFO_any (w : World) (base : Nat) (v : Value) (l : List Off) (h : OffRow w base v l) (hl : l.length ≤ 12) : Calls Tryz.prog 79 #[v, .func (.func 80) #[] #[]] w (SortPost base v (insL (ltOf cfPC) l) w) := by
  unfold OffRow at h
  obtain ⟨a, c, rfl⟩ := own_shape h
  by_cases h0 : l.length = 0
  · have hx : l = [] := List.eq_nil_of_length_eq_zero h0
    subst hx
    have e1 : insL (ltOf cfPC) ([] : List Off) = [] := by unfold insL insertionSort insOuter; simp
    rw [e1]
    have HP : Hid (OffRow w base (.slice a 0 c) []) := h
    show Calls Tryz.prog 79 #[.slice a 0 c, .func (.func 80) #[] #[]] w _
    clear h h0 e1
    go_enter Tryz.func79, Tryz.ntmps79
    go_wp2_with fail
    refine (Tryz.bits_Len 0 _ (by omega) (by omega)).mono ?_
    rintro e w' ⟨rfl, rfl⟩
    go_wp2_with fail
    refine (pdqO_nil c a _ _ _).mono ?_
    rintro e w' ⟨rfl, rfl⟩
    go_wp2_with fail
    go_end0
    exact ⟨rfl, HP.out, Below.refl _ _⟩
  · obtain ⟨g, rfl, hg1, hg2⟩ := own_pos h (by omega)
    have hcon := Tryz.slices_sortO Off.cells (fun _ => rfl) off_one cfPC 80 #[] g 0 c l.toArray w (enters_of Tryz.func80 (by kernel_rfl) rfl) (cmpPC_lays g _ w) (holdsK_own Off.cells (fun _ => rfl) (by omega) h) hg2 (by simpa using hl) (fun n W hn => (Tryz.bits_Len n W (by omega) (by omega)).mono (fun e w' ⟨h1, h2⟩ => ⟨⟨_, h1⟩, h2⟩))
    refine Calls.mono hcon ?_
    rintro e w' ⟨rfl, q, os, rfl⟩
    have e2 : l.toArray.size = l.length := by simp
    rw [e2, insL_arr]
    refine ⟨rfl, ?_, below_sortK Off.cells 2 os (Below.refl base w) hg1 (by omega)⟩
    unfold OffRow
    rw [insL_len]
    exact own_putK Off.cells (fun _ => rfl) (by omega) h (insL_len _ _) q os
set_option maxRecDepth 100000 in
set_option maxHeartbeats 2000000 in
theorem stableO_any (w : World) (base : Nat) (v : Value) (l : List Off) (h : OffRow w base v l) (hl : l.length ≤ 12) : Calls Tryz.prog 103 #[v, .func (.func 104) #[] #[]] w (SortPost base v (insL (ltOf cfP) l) w) := by
  unfold OffRow at h
  obtain ⟨a, c, rfl⟩ := own_shape h
  have HINS : Hid (Calls Tryz.prog 138 #[.slice a l.length c, .int .i64 0, .int .i64 l.length, .func (.func 104) #[] #[]] w (SortPost base (.slice a l.length c) (insL (ltOf cfP) l) w)) := by
    show Calls _ _ _ _ _
    by_cases h0 : l.length = 0
    · have hx : l = [] := List.eq_nil_of_length_eq_zero h0
      subst hx
      have e1 : insL (ltOf cfP) ([] : List Off) = [] := by unfold insL insertionSort insOuter; simp
      rw [e1]
      refine (insO_nil c a _ w).mono ?_
      rintro e w' ⟨rfl, rfl⟩
      exact ⟨rfl, h, Below.refl _ _⟩
    · obtain ⟨g, rfl, hg1, hg2⟩ := own_pos h (by omega)
      have hcon := Tryz.slices_insO Off.cells (fun _ => rfl) off_one cfP 104 #[] g 0 c 0 l.length l.toArray w (enters_of Tryz.func104 (by kernel_rfl) rfl) (cmpP_lays g _ w) (holdsK_own Off.cells (fun _ => rfl) (by omega) h) hg2 (Nat.zero_le _) (by simp) (by simp; omega)
      refine Calls.mono hcon ?_
      rintro e w' ⟨rfl, q, os, rfl⟩
      rw [insL_arr]
      refine ⟨rfl, ?_, below_sortK Off.cells 2 os (Below.refl base w) hg1 (by omega)⟩
      unfold OffRow
      rw [insL_len]
      exact own_putK Off.cells (fun _ => rfl) (by omega) h (insL_len _ _) q os
  have hl12 := hl
  clear h
  have HPR : Hid (∀ e W2, SortPost base (.slice a l.length c) (insL (ltOf cfP) l) w e W2 → e = .returned (.tuple #[]) ∧ Hid (SortPost base (.slice a l.length c) (insL (ltOf cfP) l) w (.returned (.tuple #[])) W2)) := fun e W2 h => ⟨h.1, by obtain ⟨rfl, h2⟩ := h; exact ⟨rfl, h2⟩⟩
  generalize hPP : SortPost base (.slice a l.length c) (insL (ltOf cfP) l) w = PP at HINS HPR ⊢
  clear hPP
  generalize l.length = n at HINS hl12 ⊢
  clear hl
  have HSTB : Hid (Calls Tryz.prog 136 #[.slice a n c, .int .i64 n, .func (.func 104) #[] #[]] w fun e w' => e = .returned (.tuple #[]) ∧ PP (.returned (.tuple #[])) w') := by
    show Calls _ _ _ _ _
    have q1 : ¬ ((20 : Int) ≤ (n : Int)) := by omega
    have q2 : ¬ ((20 : Int) < (n : Int)) := by omega
    go_enter Tryz.func136, Tryz.ntmps136
    go_wp2_with fail
    go_loopw [7, 8] (fun a b wr => a = .int .i64 0 ∧ b = .int .i64 20 ∧ wr = w) (fun _ _ _ => 0)
    case atStart => exact ⟨rfl, rfl, rfl⟩
    case round =>
      obtain ⟨rfl, rfl, rfl⟩ := hrel
      go_wp2_with fail
      refine HINS.out.mono ?_
      rintro e W2 hp
      obtain ⟨rfl, HPW⟩ : e = .returned (.tuple #[]) ∧ Hid (PP (.returned (.tuple #[])) W2) := HPR.out e W2 hp
      go_wp2_with fail
      go_loopw [6] (fun a wr => a = .int .i64 20 ∧ wr = W2) (fun _ _ => 0)
      case atStart => exact ⟨rfl, rfl⟩
      case round =>
        obtain ⟨rfl, rfl⟩ := hrel
        go_wp2_with fail
        go_end0
        exact ⟨rfl, HPW.out⟩
  clear HINS
  go_enter Tryz.func103, Tryz.ntmps103
  go_wp2_with fail
  refine HSTB.out.mono ?_
  rintro e w' ⟨rfl, hp⟩
  have HP := Lib.hid hp
  clear hp
  go_wp2_with fail
  go_end0
  exact HP.out
end Go.Proofs.YtppinnjdaoaddaaGreatDoor
