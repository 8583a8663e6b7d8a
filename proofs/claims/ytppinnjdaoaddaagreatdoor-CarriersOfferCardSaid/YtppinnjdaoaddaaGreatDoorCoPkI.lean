/- What is proved here: lemmas and contracts for the statement, put together out of smaller texts (CarrCarried, CarrShr, CarrTrn, CarrTrnR, PortTab, RegionPre). No condition beyond those stated. -/
import Derived.Test.YtppinnjdaoaddaaGreatDoorCoPkD
import Derived.Test.YtppinnjdaoaddaaGreatDoorCoPkE
import Derived.Test.YtppinnjdaoaddaaGreatDoorCoPkC
import Derived.Test.YtppinnjdaoaddaaGreatDoorCoPkB
import Derived.Test.YtppinnjdaoaddaaGreatDoorShelfPort
import Derived.Lib.ItoaLen
import Derived.Test.YtppinnjdaoaddaaGreatDoorCoPkF
import Derived.Test.YtppinnjdaoaddaaGreatDoorCoPkA
set_option linter.unusedVariables false
set_option linter.unusedSimpArgs false
namespace Go.Proofs.YtppinnjdaoaddaaGreatDoor
open Go.RowKit

def probeD (B : Nat) : Deck := ⟨0, 0, 0, 60000, some ⟨B, 0, none⟩, 1, 1, [⟨[52, 57], 100, false⟩]⟩
theorem probe_fine {w : World} {B : Nat} (h : Blk w B [.string ⟨#[52, 57]⟩, .int .i64 100, .bool false] 120) : DeckFine w (probeD B) := by
  refine ⟨⟨⟨rfl, Or.inr ⟨B, 0, rfl, h.lt, fun i hi j hj => ?_⟩⟩, by show 1 ≤ 100; decide, fun i hi => ?_⟩, Nat.le_refl 1, by show (-2000000000000 : Int) ≤ 0 ∧ (0 : Int) ≤ 2000000000000; decide, by show (-2000000000000 : Int) ≤ 0 ∧ (0 : Int) ≤ 2000000000000; decide, by show (-2000000000000 : Int) ≤ 0 ∧ (0 : Int) ≤ 2000000000000; decide, by show (-2000000000000 : Int) ≤ 60000 ∧ (60000 : Int) ≤ 2000000000000; decide⟩
  · have hi : i < 1 := hi
    obtain rfl : i = 0 := by omega
    match j, hj with
    | 0, _ => exact h.cell 0 rfl
    | 1, _ => exact h.cell 1 rfl
    | 2, _ => exact h.cell 2 rfl
  · have hi : i < 1 := hi
    obtain rfl : i = 0 := by omega
    show ([52, 57] : List UInt8).length ≤ 100 ∧ (-2000000000000 : Int) ≤ 100 ∧ (100 : Int) ≤ 2000000000000
    decide
theorem probe_err (B : Nat) : priceE (probeD B) [43, 52, 57, 51, 48, 49] 61000 = 0 := by
  show priceE ⟨0, 0, 0, 60000, some ⟨B, 0, none⟩, 1, 1, [⟨[52, 57], 100, false⟩]⟩ _ _ = 0
  rfl
theorem probe_val (B : Nat) : priceA (probeD B) [43, 52, 57, 51, 48, 49] 61000 = (200, true) := by
  unfold priceA
  rw [probe_err, if_pos rfl]
  rfl
theorem probe_any (w : World) (B : Nat) (h : Blk w B [.string ⟨#[52, 57]⟩, .int .i64 100, .bool false] 120) : Calls Tryz.prog 65 #[.agg #[.int .i64 0, .int .i64 0, .int .i64 0, .int .i64 60000, .slice (some ⟨B, 0, none⟩) 1 1], .string ⟨#[43, 52, 57, 51, 48, 49]⟩, .int .i64 61000] w fun e w' => e = .returned (.tuple #[.int .i64 200, .bool true, .int .i64 0]) ∧ Below w.heap.size w w' := by
  refine (carPrice_any w (probeD B) (probe_fine h) [43, 52, 57, 51, 48, 49] (by decide) 61000).mono ?_
  rintro e w' ⟨rfl, hb⟩
  rw [probe_err, probe_val]
  exact ⟨rfl, hb⟩
set_option maxRecDepth 100000 in
set_option maxHeartbeats 2000000 in
theorem carried_any (w : World) : Calls Tryz.prog 23 #[] w fun e w' => e = .returned (.bool true) ∧ Below w.heap.size w w' := by
  go_enter Tryz.func23, Tryz.ntmps23
  go_wp2_with fail
  have HB : Hid (Blk (w.alloc (.cells #[.string ⟨#[52, 57]⟩, .int .i64 100, .bool false] 120)) w.heap.size [.string ⟨#[52, 57]⟩, .int .i64 100, .bool false] 120) := Blk.new w [.string ⟨#[52, 57]⟩, .int .i64 100, .bool false] 120
  refine (probe_any _ _ HB.out).mono ?_
  rintro e w1 ⟨rfl, hb⟩
  have HE := Lib.hid (ext_trans (ext_alloc (Below.refl w.heap.size w) (o := .cells #[.string ⟨#[52, 57]⟩, .int .i64 100, .bool false] 120)) hb)
  clear hb HB
  as_aux_lemma =>
    go_wp2_with fail
    go_ret
    exact ⟨rfl, HE.out⟩
end Go.Proofs.YtppinnjdaoaddaaGreatDoor

set_option linter.unusedVariables false
set_option linter.unusedSimpArgs false
namespace Go.Proofs.YtppinnjdaoaddaaGreatDoor
open Go.RowKit

set_option maxRecDepth 100000 in
set_option maxHeartbeats 4000000 in
theorem checkShr_any (w : World) (a : Option Addr) (n cap : Nat) (l : List Carr) (hl : CarrRow w a n l) (hcap : n ≤ cap) (a2 : Option Addr) (m cap2 : Nat) (s : List Shr) (hs : ShrRow w a2 m s) (hcap2 : m ≤ cap2) : Calls Tryz.prog 17 #[.slice a n cap, .slice a2 m cap2] w (ErrPost (shrE l s) w) := by
  have hlen := hs.len
  have hfew := hs.few
  have HCR := Lib.hid hl
  have HSR := Lib.hid hs
  have HSC := Lib.hid ((shares_cases l s).2 (by omega))
  have HX : Hid (shrE l s = if carrsErr l ≠ 0 then carrsErr l else sharesErr l s) := rfl
  generalize shrE l s = Z at HX ⊢
  clear hl hs
  generalize sharesErr l s = R at HSC HX ⊢
  rw [← hlen] at HSC
  have HLEN := Lib.hid hlen
  clear hlen
  have hbig : ¬ (50 : Int) < m := by omega
  go_enter Tryz.func17, Tryz.ntmps17
  go_wp2_with fail
  refine (checkCarr_any w a n cap l HCR.out hcap).mono ?_
  rintro e w0 ⟨rfl, hb0⟩
  have HB0 := Lib.hid hb0
  clear hb0
  generalize carrsErr l = C at HX ⊢
  by_cases hC : C = 0
  case neg =>
    have hCb : (C != 0) = true := by simp [hC]
    obtain rfl : Z = C := by rw [HX.out, if_pos hC]
    clear HX HSC
    as_aux_lemma =>
      go_wp2_with fail
      go_ret
      exact ⟨rfl, HB0.out⟩
  subst hC
  obtain rfl : R = Z := by rw [HX.out, if_neg (by simp)]
  clear HX
  as_aux_lemma =>
    go_wp2_with fail
    clear hbig
    go_loopw [6, 19] (fun sm it wr => ∃ k : Nat, k ≤ m ∧ sm = .int .i64 (partSum s k) ∧ it = .int .i64 k ∧ Hid (∀ j, j < k → shareErr l s j = 0) ∧ Hid (Below w.heap.size w wr)) (fun _ it _ => m - (intOf it).toNat)
    case atStart => exact ⟨0, Nat.zero_le _, rfl, rfl, fun j hj => by omega, HB0.out⟩
    case round =>
      obtain ⟨k, hk, rfl, rfl, HZ, HB⟩ := hrel
      obtain ⟨hP0, hP1⟩ := part_bound k HZ.out
      by_cases hlt : k < m
      case neg =>
        obtain rfl : k = m := by omega
        have HE := Lib.hid (HSC.out.2 HZ.out)
        clear HSC HZ
        generalize partSum s k = P at HE hP0 hP1 ⊢
        by_cases hp : P = 1000
        · obtain rfl : R = 0 := by rw [HE.out, if_neg (by simp [hp])]
          subst hp
          clear HE
          as_aux_lemma =>
            go_wp2_with fail
            go_ret
            exact ⟨rfl, HB.out⟩
        · obtain rfl : R = 16 := by rw [HE.out, if_pos hp]
          have hpb : (P != 1000) = true := by simp [hp]
          clear HE
          as_aux_lemma =>
            go_wp2_with fail
            go_ret
            exact ⟨rfl, HB.out⟩
      obtain ⟨b, off, rfl, hb, hc⟩ := HSR.out.at (by omega)
      have HCC := Lib.hid hc
      obtain ⟨q0, q1⟩ := hc k hlt
      have c0 := (HB.out.cell (p := ⟨b, off + k * 2, none⟩) hb).trans q0
      have c1 := (HB.out.cell (p := ⟨b, off + k * 2 + 1, none⟩) hb).trans q1
      obtain ⟨hcl, hp1, hp2⟩ := HSR.out.each k (by rw [← HLEN.out]; exact hlt)
      have HER : Hid (shareErr l s k = if hasC l (s.getD k noShr).c = false then 8
        else if 0 < k ∧ Op.bytesLess (s.getD (k - 1) noShr).c (s.getD k noShr).c = false then 7
        else if inB (s.getD k noShr).part 1 1000 = false then 1
        else 0) := rfl
      have HPS : Hid (partSum s (k + 1) = partSum s k + (s.getD k noShr).part) := rfl
      have HSTOP := Lib.hid (HSC.out.1 k hlt HZ.out)
      have HNX : Hid (shareErr l s k = 0 → ∀ j, j < k + 1 → shareErr l s j = 0) := fun h j hj => by
        rcases Nat.lt_succ_iff_lt_or_eq.1 hj with h9 | rfl
        · exact HZ.out j h9
        · exact h
      have HPV : Hid (0 < k → w.cell? ⟨b, off + (k - 1) * 2, none⟩ = some (.string ⟨(s.getD (k - 1) noShr).c.toArray⟩)) := fun h => (HCC.out (k - 1) (by omega)).1
      clear q0 q1 hc HZ HCC HSC
      generalize shareErr l s k = X at HER HSTOP HNX
      generalize s.getD k noShr = c at c0 c1 hcl hp1 hp2 HER HPS
      generalize s.getD (k - 1) noShr = q at HER HPV
      obtain ⟨cc, cp⟩ := c
      obtain ⟨qk, qp⟩ := q
      simp only at c0 c1 hcl hp1 hp2 HER HPS HPV
      generalize partSum s k = P at HPS hP0 hP1 ⊢
      have HID : Hid (idxC l cc < 0 ↔ hasC l cc = false) := idxC_neg
      have HFD : Hid (∀ W a n cap, CarrRow W a n l → Calls Tryz.prog 58 #[.slice a n cap, .string ⟨cc.toArray⟩] W fun e w' => e = .returned (.int .i64 (idxC l cc)) ∧ Below W.heap.size W w') := fun W a n cap h => find_any W a n cap l h cc
      generalize idxC l cc = D at HID HFD
      generalize hasC l cc = g1 at HID HER
      as_aux_lemma =>
        go_wp2_with fail
        refine (HFD.out _ a n cap (HCR.out.below (ext_alloc HB.out))).mono ?_
        rintro e w3 ⟨rfl, hb3⟩
        obtain ⟨qc9, qf⟩ := bcell hb3
        have hz3 : wr.heap.size < w3.heap.size := by have := hb3.size; simp at this; omega
        have e0 : w3.cell? ⟨wr.heap.size, 0, none⟩ = some (.string ⟨cc.toArray⟩) := (qc9 _ 0 (by simp)).trans (by go_simp)
        have e1 : w3.cell? ⟨wr.heap.size, 1, none⟩ = some (.int .i64 cp) := (qc9 _ 1 (by simp)).trans (by go_simp)
        have HB3 : Hid (Below w.heap.size w w3) := ext_trans (ext_alloc HB.out) hb3
        generalize wr.heap.size = T at e0 e1 hz3 ⊢
        clear qc9 qf hb3 c0 c1 HB HFD
        by_cases hD : D < 0
        · obtain rfl : X = 8 := by rw [HER.out, if_pos (HID.out.1 hD)]
          obtain rfl : R = 8 := HSTOP.out (by decide)
          clear HER HSTOP HNX HPV HID HPS
          skip
          as_aux_lemma =>
            go_wp2_with fail
            go_ret
            exact ⟨rfl, HB3.out⟩
        have HER1 : Hid (X = if 0 < k ∧ Op.bytesLess qk cc = false then 7
          else if inB cp 1 1000 = false then 1
          else 0) := by show _ = _; rw [HER.out, if_neg (fun h => hD (HID.out.2 h))]
        clear HER HID
        by_cases hk0 : k = 0
        · subst hk0
          have HER2 : Hid (X = if inB cp 1 1000 = false then 1
            else 0) := by show _ = _; rw [HER1.out, if_neg (fun h => by omega)]
          clear HER1 HPV
          skip
          as_aux_lemma =>
            go_wp2_with fail
            go_quiet (fail)
            go_wp2_with fail
            refine (within_c cp 1 1000 _).mono ?_
            rintro e w4 ⟨rfl, rfl⟩
            have HB3d : Hid (Below w.heap.size w (World.drewN w3 nq)) := ext_drewN HB3.out
            generalize inB cp 1 1000 = g2 at HER2 ⊢
            cases g2
            · obtain rfl : X = 1 := by rw [HER2.out, if_pos rfl]
              obtain rfl : R = 1 := HSTOP.out (by decide)
              clear HER2 HSTOP HNX HPS
              skip
              as_aux_lemma =>
                go_wp2_with fail
                go_ret
                exact ⟨rfl, HB3d.out⟩
            have HZ2 := Lib.hid (HNX.out (by rw [HER2.out, if_neg (by decide)]))
            have wp : IntKind.i64.wrap (P + cp) = P + cp := IntWalk.i64_in _ (by omega)
            clear HER2 HSTOP HNX
            skip
            as_aux_lemma =>
              go_wp2_with fail
              go_roundw
              case rel => exact ⟨0 + 1, by omega, by rw [HPS.out], by go_num, HZ2.out, HB3d.out⟩
              case measure => simp [intOf]; omega
        obtain ⟨j, rfl⟩ : ∃ j, k = j + 1 := ⟨k - 1, by omega⟩
        have p0 := HPV.out (by omega)
        rw [Nat.add_sub_cancel] at p0
        have g0 := (HB3.out.cell (p := ⟨b, off + j * 2, none⟩) hb).trans p0
        have w1 : IntKind.i64.wrap (j : Int) = j := IntWalk.i64_in _ (by omega)
        have w2 : IntKind.i64.wrap ((j : Int) + 1 - 1) = j := by rw [Int.add_sub_cancel]; exact w1
        have w3' : (j : Int) < m := by omega
        have w4 : (0 : Int) ≤ (j : Int) := by omega
        clear HPV p0 hk0
        cases hls : Op.bytesLess qk cc
        · obtain rfl : X = 7 := by rw [HER1.out, if_pos ⟨by omega, hls⟩]
          obtain rfl : R = 7 := HSTOP.out (by decide)
          clear HER1 HSTOP HNX HPS
          by_cases hxe : cc = qk
          · subst hxe
            skip
            as_aux_lemma =>
              go_wp2_with fail
              go_quiet (fail)
              go_wp2_with fail
              go_ret
              exact ⟨rfl, ext_drewN HB3.out⟩
          · have hx1 : Op.bytesLess cc qk = true := less_total qk cc hls (Ne.symm hxe)
            skip
            as_aux_lemma =>
              go_wp2_with fail
              go_quiet (fail)
              go_wp2_with fail
              go_ret
              exact ⟨rfl, ext_drewN HB3.out⟩
        have HER2 : Hid (X = if inB cp 1 1000 = false then 1
          else 0) := by show _ = _; rw [HER1.out, if_neg (fun h => by rw [hls] at h; cases h.2)]
        obtain ⟨hx1, hx2⟩ := less_asym hls
        have hx3 : (cc == qk) = false := beq_eq_false_iff_ne.2 (fun e => hx2 e.symm)
        clear HER1 hx2
        skip
        as_aux_lemma =>
          go_wp2_with fail
          go_quiet (fail)
          go_wp2_with fail
          refine (within_c cp 1 1000 _).mono ?_
          rintro e w4 ⟨rfl, rfl⟩
          have HB3d : Hid (Below w.heap.size w (World.drewN w3 nq)) := ext_drewN HB3.out
          generalize inB cp 1 1000 = g2 at HER2 ⊢
          cases g2
          · obtain rfl : X = 1 := by rw [HER2.out, if_pos rfl]
            obtain rfl : R = 1 := HSTOP.out (by decide)
            clear HER2 HSTOP HNX HPS
            skip
            as_aux_lemma =>
              go_wp2_with fail
              go_ret
              exact ⟨rfl, HB3d.out⟩
          have HZ2 := Lib.hid (HNX.out (by rw [HER2.out, if_neg (by decide)]))
          have wp : IntKind.i64.wrap (P + cp) = P + cp := IntWalk.i64_in _ (by omega)
          clear HER2 HSTOP HNX
          skip
          as_aux_lemma =>
            go_wp2_with fail
            go_roundw
            case rel => exact ⟨j + 1 + 1, by omega, by rw [HPS.out], by go_num, HZ2.out, HB3d.out⟩
            case measure => simp [intOf]; omega
end Go.Proofs.YtppinnjdaoaddaaGreatDoor

set_option linter.unusedVariables false
set_option linter.unusedSimpArgs false
namespace Go.Proofs.YtppinnjdaoaddaaGreatDoor
open Go.RowKit

def TurnPost (l : List Carr) (s : List Shr) (sent : List Int) (w : World) (e : Ending) (w' : World) : Prop :=
  e = .returned (.tuple #[.string ⟨(if turnE l s sent = 0 then turnK s sent else []).toArray⟩, .bool (decide (turnE l s sent = 0 ∧ s.length ≠ 0)), .int .i64 (turnE l s sent)]) ∧ Below w.heap.size w w'
theorem turn_bad {l : List Carr} {s : List Shr} {sent : List Int} {w w' : World} {E : Int} (h : turnE l s sent = E) (hE : E ≠ 0) (hb : Below w.heap.size w w') : TurnPost l s sent w (.returned (.tuple #[.string ⟨#[]⟩, .bool false, .int .i64 E])) w' := by
  unfold TurnPost
  rw [h, if_neg hE]
  refine ⟨?_, hb⟩
  rw [decide_eq_false (fun h => hE h.1)]
theorem turn_ok {l : List Carr} {s : List Shr} {sent : List Int} {w w' : World} {m : Nat} (hm : m = s.length) (h : turnE l s sent = 0) (hb : Below w.heap.size w w') : TurnPost l s sent w (.returned (.tuple #[.string ⟨(turnK s sent).toArray⟩, .bool (decide (0 < (m : Int))), .int .i64 0])) w' := by
  unfold TurnPost
  rw [h, if_pos rfl]
  refine ⟨?_, hb⟩
  rw [show decide ((0 : Int) = 0 ∧ s.length ≠ 0) = decide (0 < (m : Int)) from by congr 1; exact propext ⟨fun h => by omega, fun h => ⟨rfl, by omega⟩⟩]
theorem sent_bad {s : List Shr} {sent : List Int} {k : Nat} (hl : s.length = sent.length) (hk : k < sent.length) (h : inB (sent.getD k 0) 0 1000000000000 = false) : sentErr s sent = 1 := by
  unfold sentErr
  rw [if_neg (by simp [hl]), if_pos]
  rw [List.any_eq_true]
  refine ⟨sent.getD k 0, ?_, by rw [h]; rfl⟩
  rw [List.getD_eq_getElem?_getD, List.getElem?_eq_getElem hk]
  exact List.getElem_mem hk
theorem sent_ok {s : List Shr} {sent : List Int} (hl : s.length = sent.length) (h : ∀ j, j < sent.length → inB (sent.getD j 0) 0 1000000000000 = true) : sentErr s sent = 0 := by
  unfold sentErr
  rw [if_neg (by simp [hl]), if_neg]
  rw [List.any_eq_true]
  rintro ⟨x, hx, h2⟩
  obtain ⟨j, hj, rfl⟩ := List.getElem_of_mem hx
  have := h j hj
  rw [List.getD_eq_getElem?_getD, List.getElem?_eq_getElem hj] at this
  rw [show inB sent[j] 0 1000000000000 = true from this] at h2
  cases h2
theorem sum_few {l : List Int} : ∀ {k : Nat}, (∀ j, j < k → inB (l.getD j 0) 0 1000000000000 = true) → 0 ≤ sumTo l k ∧ sumTo l k ≤ 1000000000000 * k
  | 0, _ => by simp [sumTo]
  | k + 1, h => by
    have h1 := sum_few (k := k) (fun j hj => h j (by omega))
    have h2 := h k (by omega)
    unfold inB at h2
    simp only [Bool.and_eq_true, decide_eq_true_eq] at h2
    unfold sumTo
    omega

set_option maxRecDepth 100000 in
set_option maxHeartbeats 4000000 in
theorem turn_any (w : World) (a : Option Addr) (n cap : Nat) (l : List Carr) (hl : CarrRow w a n l) (hcap : n ≤ cap) (a2 : Option Addr) (m cap2 : Nat) (s : List Shr) (hs : ShrRow w a2 m s) (hcap2 : m ≤ cap2) (a3 : Option Addr) (q cap3 : Nat) (sent : List Int) (hn : IRow .i64 w a3 q sent) (hcap3 : q ≤ cap3) (hq : q ≤ 100) : Calls Tryz.prog 18 #[.slice a n cap, .slice a2 m cap2, .slice a3 q cap3] w (TurnPost l s sent w) := by
  have hfew := hs.few
  have hlf := hl.few
  have HLL := Lib.hid hl.len
  have HLEN := Lib.hid hs.len
  have HNL := Lib.hid hn.1
  have HCR := Lib.hid hl
  have HSW := Lib.hid hs
  have HNW := Lib.hid hn
  have HBAD : Hid (∀ E w', turnE l s sent = E → E ≠ 0 → Below w.heap.size w w' → TurnPost l s sent w (.returned (.tuple #[.string ⟨#[]⟩, .bool false, .int .i64 E])) w') := fun E w' h1 h2 h3 => turn_bad h1 h2 h3
  have HOK : Hid (∀ w', turnE l s sent = 0 → Below w.heap.size w w' → TurnPost l s sent w (.returned (.tuple #[.string ⟨(turnK s sent).toArray⟩, .bool (decide (0 < (m : Int))), .int .i64 0])) w') := fun w' h1 h2 => turn_ok HLEN.out h1 h2
  have HTD : Hid (turnE l s sent = if carrsErr l ≠ 0 then carrsErr l else if s.length ≠ 0 ∧ sharesErr l s ≠ 0 then sharesErr l s else sentErr s sent) := rfl
  have HSD : Hid (shrE l s = if carrsErr l ≠ 0 then carrsErr l else sharesErr l s) := rfl
  have HPK : Hid (carrsErr l = 0 → sharesErr l s = 0 → ∀ i, i < m → (s.getD i noShr).c ≠ [] ∧ 1 ≤ (s.getD i noShr).part ∧ (s.getD i noShr).part ≤ 1000) := fun h1 h2 i hi => shares_keys (by rw [← HLL.out]; exact hlf) h1 h2 (by rw [← HLEN.out]; exact hfew) i (by rw [← HLEN.out]; exact hi)
  rw [← HLEN.out] at HTD
  clear hl hs hn
  go_enter Tryz.func18, Tryz.ntmps18
  go_wp2_with fail
  refine (checkCarr_any w a n cap l HCR.out hcap).mono ?_
  rintro e w1 ⟨rfl, hb1⟩
  have HB1 := Lib.hid hb1
  clear hb1
  generalize carrsErr l = C at HTD HSD HPK ⊢
  by_cases hC : C = 0
  case neg =>
    have HX : Hid (turnE l s sent = C) := by show _ = _; rw [HTD.out, if_pos hC]
    have hCb : (C != 0) = true := by simp [hC]
    clear HTD HSD HPK
    as_aux_lemma =>
      go_wp2_with fail
      go_ret3
      exact HBAD.out C _ HX.out hC HB1.out
  subst hC
  by_cases hm0 : m = 0
  · have HTE : Hid (turnE l s sent = sentErr s sent) := by show _ = _; rw [HTD.out, if_neg (by simp), if_neg (fun h => h.1 hm0)]
    have HPT : Hid (∀ i, i < m → (s.getD i noShr).c ≠ [] ∧ 1 ≤ (s.getD i noShr).part ∧ (s.getD i noShr).part ≤ 1000) := fun i hi => by omega
    have HB2 := HB1
    obtain ⟨w2, rfl⟩ : ∃ w2 : World, w2 = w1 := ⟨_, rfl⟩
    clear HTD HSD HPK HB1
    have hmI : ¬ (0 : Int) < m := by omega
    have HSR0 := Lib.hid (HSW.out.below HB2.out)
    have HNR0 := Lib.hid (HNW.out.below HB2.out)
    clear HSW HNW
    by_cases hmq : q = m
    case neg =>
      have HX : Hid (turnE l s sent = 3) := by show _ = _; rw [HTE.out]; unfold sentErr; rw [if_pos (by rw [← HLEN.out, ← HNL.out]; exact fun h => hmq h.symm)]
      have hqb : ((q : Int) != (m : Int)) = true := by simp; omega
      clear HTE HPT HOK
      skip
      as_aux_lemma =>
        go_wp2_with fail
        go_ret3
        exact HBAD.out 3 _ HX.out (by decide) HB2.out
    subst hmq
    obtain ⟨w0, rfl⟩ : ∃ w0 : World, w0 = w2 := ⟨_, rfl⟩
    skip
    as_aux_lemma =>
      go_wp2_with fail
      go_loopw [11, 40] (fun al it wr => ∃ k : Nat, k ≤ q ∧ al = .int .i64 (sumTo sent k) ∧ it = .int .i64 k ∧ Hid (∀ j, j < k → inB (sent.getD j 0) 0 1000000000000 = true) ∧ wr = w0) (fun _ it _ => q - (intOf it).toNat)
      case atStart => exact ⟨0, Nat.zero_le _, rfl, rfl, fun j hj => by omega, rfl⟩
      case round =>
        obtain ⟨k, hk, rfl, rfl, HZ, rfl⟩ := hrel
        obtain ⟨hs0, hs1⟩ := sum_few HZ.out
        by_cases hlt : k < q
        · exact absurd hlt (by omega)
        · obtain rfl : k = q := by omega
          have HXT : Hid (∀ i, i < k → 0 ≤ sent.getD i 0 ∧ sent.getD i 0 ≤ 1000000000000) := fun i hi => by have := HZ.out i hi; unfold inB at this; simpa using this
          have HX0 : Hid (turnE l s sent = 0) := by
            show _ = _
            rw [HTE.out]
            exact sent_ok (by rw [← HLEN.out, ← HNL.out]) (fun j hj => HZ.out j (by rw [HNL.out]; exact hj))
          have HTK : Hid (turnK s sent = (turnTo s sent k).1) := by show turnK s sent = _; unfold turnK; rw [← HLEN.out]
          have HOK2 : Hid (∀ w', Below w.heap.size w w' → TurnPost l s sent w (.returned (.tuple #[.string ⟨(turnTo s sent k).1.toArray⟩, .bool (decide (0 < (k : Int))), .int .i64 0])) w') := fun w' h => by rw [← HTK.out]; exact HOK.out w' HX0.out h
          have HAA : Hid (∃ A, sumTo sent k = A) := ⟨_, rfl⟩
          obtain ⟨A, hAA⟩ := HAA.out
          rw [hAA] at hs0 hs1 ⊢
          have HAA := Lib.hid hAA
          have HSB : Hid (0 ≤ A ∧ A ≤ 1000000000000 * (k : Int)) := ⟨hs0, hs1⟩
          clear hs0 hs1 hAA HBAD HOK HTE HZ HTK HX0
          obtain ⟨m, rfl⟩ : ∃ m : Nat, m = k := ⟨_, rfl⟩
          have HSR := HSR0
          have HNR := HNR0
          obtain ⟨w0, rfl⟩ : ∃ w0 : World, w0 = wr := ⟨_, rfl⟩
          as_aux_lemma =>
            go_wp2_with fail
            obtain ⟨hA0, hA1⟩ := HSB.out
            have HTS : Hid (∀ k, k < m → behind s sent k = (s.getD k noShr).part * (A + 1) - 1000 * sent.getD k 0) := fun k hk => by unfold behind; rw [← HLEN.out, HAA.out]
            go_loopw [14, 15, 53] (fun bs ms it wr => ∃ k : Nat, k ≤ m ∧ it = .int .i64 k ∧ bs = .string ⟨(turnTo s sent k).1.toArray⟩ ∧ ms = .int .i64 (turnTo s sent k).2 ∧ Hid (Below w0.heap.size w0 wr)) (fun _ _ it _ => m - (intOf it).toNat)
            case atStart => exact ⟨0, Nat.zero_le _, rfl, rfl, rfl, Below.refl _ _⟩
            case round =>
              obtain ⟨k, hk, rfl, rfl, rfl, HB⟩ := hrel
              by_cases hlt : k < m
              case neg =>
                obtain rfl : k = m := by omega
                have HBE := Lib.hid (ext_trans HB2.out HB.out)
                as_aux_lemma =>
                  go_wp2_with fail
                  go_ret3
                  have := HOK2.out _ HBE.out
                  rw [decide_eq_false (show ¬ (0 : Int) < (k : Int) by omega)] at this
                  exact this

              exact absurd hlt (by omega)
  have HB2b : Hid (∀ W, Below w1.heap.size w1 W → Below w.heap.size w W) := fun W h => ext_trans HB1.out h
  have HSH := Lib.hid (checkShr_any w1 a n cap l (HCR.out.below HB1.out) hcap a2 m cap2 s (HSW.out.below HB1.out) hcap2)
  have HTD2 : Hid (turnE l s sent = if sharesErr l s ≠ 0 then sharesErr l s else sentErr s sent) := by
    show _ = _
    rw [HTD.out, if_neg (by simp)]
    congr 1
    exact propext ⟨fun h => h.2, fun h => ⟨hm0, h⟩⟩
  rw [HSD.out, if_neg (by simp)] at HSH
  clear HTD HSD
  have hmI : (0 : Int) < m := by omega
  skip
  as_aux_lemma =>
    go_wp2_with fail
    refine HSH.out.mono ?_
    rintro e w2 ⟨rfl, hb2⟩
    have HB2 := Lib.hid (HB2b.out _ hb2)
    clear hb2 HSH HB2b HB1
    generalize sharesErr l s = D at HTD2 HPK ⊢
    by_cases hD : D = 0
    case neg =>
      have HX : Hid (turnE l s sent = D) := by show _ = _; rw [HTD2.out, if_pos hD]
      have hDb : (D != 0) = true := by simp [hD]
      clear HTD2 HPK
      skip
      as_aux_lemma =>
        go_wp2_with fail
        go_ret3
        exact HBAD.out D _ HX.out hD HB2.out
    subst hD
    have HTE : Hid (turnE l s sent = sentErr s sent) := by show _ = _; rw [HTD2.out, if_neg (by simp)]
    have HPT := Lib.hid (HPK.out trivial rfl)
    clear HTD2 HPK
    have HSR0 := Lib.hid (HSW.out.below HB2.out)
    have HNR0 := Lib.hid (HNW.out.below HB2.out)
    clear HSW HNW
    by_cases hmq : q = m
    case neg =>
      have HX : Hid (turnE l s sent = 3) := by show _ = _; rw [HTE.out]; unfold sentErr; rw [if_pos (by rw [← HLEN.out, ← HNL.out]; exact fun h => hmq h.symm)]
      have hqb : ((q : Int) != (m : Int)) = true := by simp; omega
      clear HTE HPT HOK
      skip
      as_aux_lemma =>
        go_wp2_with fail
        go_ret3
        exact HBAD.out 3 _ HX.out (by decide) HB2.out
    subst hmq
    obtain ⟨w0, rfl⟩ : ∃ w0 : World, w0 = w2 := ⟨_, rfl⟩
    skip
    as_aux_lemma =>
      go_wp2_with fail
      go_loopw [11, 40] (fun al it wr => ∃ k : Nat, k ≤ q ∧ al = .int .i64 (sumTo sent k) ∧ it = .int .i64 k ∧ Hid (∀ j, j < k → inB (sent.getD j 0) 0 1000000000000 = true) ∧ wr = w0) (fun _ it _ => q - (intOf it).toNat)
      case atStart => exact ⟨0, Nat.zero_le _, rfl, rfl, fun j hj => by omega, rfl⟩
      case round =>
        obtain ⟨k, hk, rfl, rfl, HZ, rfl⟩ := hrel
        obtain ⟨hs0, hs1⟩ := sum_few HZ.out
        by_cases hlt : k < q
        · obtain ⟨b3, off3, rfl, hb3, hc3⟩ := HNR0.out.2.resolve_left (by omega)
          have n0 := hc3 k hlt
          have HBD : Hid (inB (sent.getD k 0) 0 1000000000000 = false → turnE l s sent = 1) := fun h => by
            rw [HTE.out]
            exact sent_bad (by rw [← HLEN.out, ← HNL.out]) (by rw [← HNL.out]; exact hlt) h
          have HZN : Hid (inB (sent.getD k 0) 0 1000000000000 = true → ∀ j, j < k + 1 → inB (sent.getD j 0) 0 1000000000000 = true) := fun h j hj => by
            rcases Nat.lt_succ_iff_lt_or_eq.1 hj with h9 | rfl
            · exact HZ.out j h9
            · exact h
          have HSN : Hid (sumTo sent (k + 1) = sumTo sent k + sent.getD k 0) := rfl
          clear hc3 HZ HTE
          generalize sent.getD k 0 = x at n0 HSN HBD HZN
          generalize sumTo sent k = A at HSN hs0 hs1 ⊢
          as_aux_lemma =>
            go_wp2_with fail
            refine (within_c x 0 1000000000000 _).mono ?_
            rintro e w4 ⟨rfl, rfl⟩
            have HXB : Hid (inB x 0 1000000000000 = true → 0 ≤ x ∧ x ≤ 1000000000000) := fun h => by unfold inB at h; simpa using h
            generalize inB x 0 1000000000000 = g at HBD HZN HXB ⊢
            cases g
            · have HX := Lib.hid (HBD.out rfl)
              clear HBD HZN HXB HOK
              skip
              as_aux_lemma =>
                go_wp2_with fail
                go_ret3
                exact HBAD.out 1 _ HX.out (by decide) HB2.out
            · obtain ⟨hx1, hx2⟩ := HXB.out rfl
              have HZ2 := Lib.hid (HZN.out rfl)
              have w1 : IntKind.i64.wrap (A + x) = A + x := IntWalk.i64_in _ (by omega)
              clear HBD HZN HXB
              skip
              as_aux_lemma =>
                go_wp2_with fail
                go_roundw
                case rel => exact ⟨k + 1, by omega, by rw [HSN.out], by go_num, HZ2.out, trivial⟩
                case measure => simp [intOf]; omega
        · obtain rfl : k = q := by omega
          have HXT : Hid (∀ i, i < k → 0 ≤ sent.getD i 0 ∧ sent.getD i 0 ≤ 1000000000000) := fun i hi => by have := HZ.out i hi; unfold inB at this; simpa using this
          have HX0 : Hid (turnE l s sent = 0) := by
            show _ = _
            rw [HTE.out]
            exact sent_ok (by rw [← HLEN.out, ← HNL.out]) (fun j hj => HZ.out j (by rw [HNL.out]; exact hj))
          have HTK : Hid (turnK s sent = (turnTo s sent k).1) := by show turnK s sent = _; unfold turnK; rw [← HLEN.out]
          have HOK2 : Hid (∀ w', Below w.heap.size w w' → TurnPost l s sent w (.returned (.tuple #[.string ⟨(turnTo s sent k).1.toArray⟩, .bool (decide (0 < (k : Int))), .int .i64 0])) w') := fun w' h => by rw [← HTK.out]; exact HOK.out w' HX0.out h
          have HAA : Hid (∃ A, sumTo sent k = A) := ⟨_, rfl⟩
          obtain ⟨A, hAA⟩ := HAA.out
          rw [hAA] at hs0 hs1 ⊢
          have HAA := Lib.hid hAA
          have HSB : Hid (0 ≤ A ∧ A ≤ 1000000000000 * (k : Int)) := ⟨hs0, hs1⟩
          clear hs0 hs1 hAA HBAD HOK HTE HZ HTK HX0
          obtain ⟨m, rfl⟩ : ∃ m : Nat, m = k := ⟨_, rfl⟩
          have HSR := HSR0
          have HNR := HNR0
          obtain ⟨w0, rfl⟩ : ∃ w0 : World, w0 = wr := ⟨_, rfl⟩
          as_aux_lemma =>
            go_wp2_with fail
            obtain ⟨hA0, hA1⟩ := HSB.out
            have HTS : Hid (∀ k, k < m → behind s sent k = (s.getD k noShr).part * (A + 1) - 1000 * sent.getD k 0) := fun k hk => by unfold behind; rw [← HLEN.out, HAA.out]
            go_loopw [14, 15, 53] (fun bs ms it wr => ∃ k : Nat, k ≤ m ∧ it = .int .i64 k ∧ bs = .string ⟨(turnTo s sent k).1.toArray⟩ ∧ ms = .int .i64 (turnTo s sent k).2 ∧ Hid (Below w0.heap.size w0 wr)) (fun _ _ it _ => m - (intOf it).toNat)
            case atStart => exact ⟨0, Nat.zero_le _, rfl, rfl, rfl, Below.refl _ _⟩
            case round =>
              obtain ⟨k, hk, rfl, rfl, rfl, HB⟩ := hrel
              by_cases hlt : k < m
              case neg =>
                obtain rfl : k = m := by omega
                have HBE := Lib.hid (ext_trans HB2.out HB.out)
                as_aux_lemma =>
                  go_wp2_with fail
                  go_ret3
                  have := HOK2.out _ HBE.out
                  rw [decide_eq_true (show (0 : Int) < (k : Int) by omega)] at this
                  exact this

              obtain ⟨b, off, rfl, hb, hc⟩ := HSR.out.at (by omega)
              obtain ⟨q0, q1⟩ := hc k hlt
              have c0 := (HB.out.cell (p := ⟨b, off + k * 2, none⟩) hb).trans q0
              have c1 := (HB.out.cell (p := ⟨b, off + k * 2 + 1, none⟩) hb).trans q1
              obtain ⟨b3, off3, rfl, hb3, hc3⟩ := HNR.out.2.resolve_left (by omega)
              have n0 := (HB.out.cell (p := ⟨b3, off3 + k, none⟩) hb3).trans (hc3 k (by omega))
              obtain ⟨hne, hp1, hp2⟩ := HPT.out k hlt
              obtain ⟨hx1, hx2⟩ := HXT.out k (by omega)
              have HV := Lib.hid (HTS.out k hlt)
              have HTN : Hid (turnTo s sent (k + 1) = if k = 0 ∨ (turnTo s sent k).2 < behind s sent k then ((s.getD k noShr).c, behind s sent k) else turnTo s sent k) := rfl
              clear q0 q1 hc hc3
              have hb3w : b3 < wr.heap.size := Nat.lt_of_lt_of_le hb3 HB.out.size
              generalize behind s sent k = V at HV HTN
              generalize s.getD k noShr = c at c0 c1 hne hp1 hp2 HV HTN
              generalize sent.getD k 0 = x at n0 hx1 hx2 HV
              generalize turnTo s sent k = t1 at HTN ⊢
              obtain ⟨cc, cp⟩ := c
              obtain ⟨tb, tm⟩ := t1
              simp only at c0 c1 hne hp1 hp2 HV HTN
              have hM0 : 0 ≤ cp * (A + 1) := Int.mul_nonneg (by omega) (by omega)
              have hM1 : cp * (A + 1) ≤ 1000 * 1000000000000001 := Int.mul_le_mul hp2 (by omega) (by omega) (by omega)
              have w1 : IntKind.i64.wrap (A + 1) = A + 1 := IntWalk.i64_in _ (by omega)
              have w2 : IntKind.i64.wrap (cp * (A + 1)) = cp * (A + 1) := IntWalk.i64_in _ (by omega)
              have w3 : IntKind.i64.wrap (1000 * x) = 1000 * x := IntWalk.i64_in _ (by omega)
              have w4 : IntKind.i64.wrap (cp * (A + 1) - 1000 * x) = V := by rw [HV.out]; exact IntWalk.i64_in _ (by omega)
              clear HV
              as_aux_lemma =>
                go_wp2_with fail
                go_quiet (fail)
                have HBA : Hid (Below w0.heap.size w0 (wr.alloc (.cells #[.string ⟨cc.toArray⟩, .int .i64 cp] 110))) := ext_alloc HB.out
                by_cases hk0 : k = 0
                · subst hk0
                  have HT2 : Hid (turnTo s sent (0 + 1) = (cc, V)) := by show _ = _; rw [HTN.out, if_pos (Or.inl rfl)]
                  clear HTN
                  as_aux_lemma =>
                    go_wp2_with fail
                    go_roundw
                    case rel => exact ⟨1, by omega, by go_num, by rw [HT2.out], by rw [HT2.out], ext_drewN HBA.out⟩
                    case measure => simp [intOf]; omega
                · have hkb : ((k : Int) == 0) = false := by simp; omega
                  by_cases hlt2 : tm < V
                  · have HT2 : Hid (turnTo s sent (k + 1) = (cc, V)) := by show _ = _; rw [HTN.out, if_pos (Or.inr hlt2)]
                    clear HTN
                    as_aux_lemma =>
                      go_wp2_with fail
                      go_roundw
                      case rel => exact ⟨k + 1, by omega, by go_num, by rw [HT2.out], by rw [HT2.out], ext_drewN HBA.out⟩
                      case measure => simp [intOf]; omega
                  · have HT2 : Hid (turnTo s sent (k + 1) = (tb, tm)) := by show _ = _; rw [HTN.out, if_neg (fun h => h.elim hk0 hlt2)]
                    clear HTN
                    as_aux_lemma =>
                      go_wp2_with fail
                      go_roundw
                      case rel => exact ⟨k + 1, by omega, by go_num, by rw [HT2.out], by rw [HT2.out], ext_drewN HBA.out⟩
                      case measure => simp [intOf]; omega
end Go.Proofs.YtppinnjdaoaddaaGreatDoor

set_option linter.unusedVariables false
set_option linter.unusedSimpArgs false
namespace Go.Proofs.YtppinnjdaoaddaaGreatDoor
open Go.RowKit

def PartsOk (s : List Shr) : Prop := ∀ i, i < s.length → (s.getD i noShr).c ≠ [] ∧ 1 ≤ (s.getD i noShr).part ∧ (s.getD i noShr).part ≤ 1000
def SentOk (sent : List Int) : Prop := ∀ i, i < sent.length → 0 ≤ sent.getD i 0 ∧ sent.getD i 0 ≤ 1000000000000
set_option maxRecDepth 100000 in
set_option maxHeartbeats 4000000 in
theorem turnOf_any (w : World) (a2 : Option Addr) (m cap2 : Nat) (s : List Shr) (hs : ShrRow w a2 m s) (hcap2 : m ≤ cap2) (a3 : Option Addr) (q cap3 : Nat) (sent : List Int) (hn : IRow .i64 w a3 q sent) (hcap3 : q ≤ cap3) (hqm : q = m) (hpt : PartsOk s) (hxt : SentOk sent) : Calls Tryz.prog 20 #[.slice a2 m cap2, .slice a3 q cap3] w fun e w' => e = .returned (.string ⟨(turnK s sent).toArray⟩) ∧ Below w.heap.size w w' := by
  subst hqm
  have hfew := hs.few
  have HLEN := Lib.hid hs.len
  have HNL := Lib.hid hn.1
  have HSR0 := Lib.hid hs
  have HNR0 := Lib.hid hn
  have HPT : Hid (∀ i, i < q → (s.getD i noShr).c ≠ [] ∧ 1 ≤ (s.getD i noShr).part ∧ (s.getD i noShr).part ≤ 1000) := fun i hi => hpt i (by rw [← HLEN.out]; exact hi)
  have HXT : Hid (∀ i, i < q → 0 ≤ sent.getD i 0 ∧ sent.getD i 0 ≤ 1000000000000) := fun i hi => hxt i (by rw [← HNL.out]; exact hi)
  have HSB0 := Lib.hid (sum_bound hxt)
  have HTK : Hid (turnK s sent = (turnTo s sent q).1) := by show turnK s sent = _; unfold turnK; rw [← HLEN.out]
  have HSO0 : Hid (∀ k, k ≤ q → ((turnTo s sent k).1 = [] ↔ k = 0)) := fun k hk => turn_some (fun i hi => (hpt i hi).1) k (by rw [← HLEN.out]; exact hk)
  rw [HTK.out]
  clear hs hn hpt hxt HTK
  obtain ⟨w0, rfl⟩ : ∃ w0 : World, w0 = w := ⟨_, rfl⟩
  go_enter Tryz.func20, Tryz.ntmps20
  go_wp2_with fail
  go_loopw [5, 15] (fun al it wr => ∃ k : Nat, k ≤ q ∧ al = .int .i64 (sumTo sent k + 1) ∧ it = .int .i64 k ∧ wr = w0) (fun _ it _ => q - (intOf it).toNat)
  case atStart => exact ⟨0, Nat.zero_le _, rfl, rfl, rfl⟩
  case round =>
    obtain ⟨k, hk, rfl, rfl, rfl⟩ := hrel
    obtain ⟨hs0, hs1⟩ := HSB0.out k (by rw [← HNL.out]; exact hk)
    by_cases hlt : k < q
    · obtain ⟨b3, off3, rfl, hb3, hc3⟩ := HNR0.out.2.resolve_left (by omega)
      have n0 := hc3 k hlt
      obtain ⟨hx1, hx2⟩ := HXT.out k hlt
      have HSN : Hid (sumTo sent (k + 1) = sumTo sent k + sent.getD k 0) := rfl
      clear hc3
      generalize sent.getD k 0 = x at n0 hx1 hx2 HSN
      generalize sumTo sent k = A at HSN hs0 hs1 ⊢
      have w1 : IntKind.i64.wrap (A + 1 + x) = A + 1 + x := IntWalk.i64_in _ (by omega)
      as_aux_lemma =>
        go_wp2_with fail
        go_roundw
        case rel => exact ⟨k + 1, by omega, by rw [HSN.out]; congr 1; omega, by go_num, trivial⟩
        case measure => simp [intOf]; omega
    · obtain rfl : k = q := by omega
      have HAA : Hid (∃ A, sumTo sent k = A) := ⟨_, rfl⟩
      obtain ⟨A, hAA⟩ := HAA.out
      rw [hAA] at hs0 hs1 ⊢
      have HAA := Lib.hid hAA
      have HSB : Hid (0 ≤ A ∧ A ≤ 1000000000000 * (k : Int)) := ⟨hs0, hs1⟩
      clear hs0 hs1 hAA HSB0
      obtain ⟨m, rfl⟩ : ∃ m : Nat, m = k := ⟨_, rfl⟩
      have HSR := HSR0
      have HNR := HNR0
      obtain ⟨w0, rfl⟩ : ∃ w0 : World, w0 = wr := ⟨_, rfl⟩
      as_aux_lemma =>
        go_wp2_with fail
        obtain ⟨hA0, hA1⟩ := HSB.out
        have HTS : Hid (∀ k, k < m → behind s sent k = (s.getD k noShr).part * (A + 1) - 1000 * sent.getD k 0) := fun k hk => by unfold behind; rw [← HLEN.out, HAA.out] 
        go_loopw [6, 7, 25] (fun ms bs it wr => ∃ k : Nat, k ≤ m ∧ it = .int .i64 k ∧ bs = .string ⟨(turnTo s sent k).1.toArray⟩ ∧ ms = .int .i64 (turnTo s sent k).2 ∧ Hid (Below w0.heap.size w0 wr)) (fun _ _ it _ => m - (intOf it).toNat)
        case atStart => exact ⟨0, Nat.zero_le _, rfl, rfl, rfl, Below.refl _ _⟩
        case round =>
          obtain ⟨k, hk, rfl, rfl, rfl, HB⟩ := hrel
          by_cases hlt : k < m
          case neg =>
            obtain rfl : k = m := by omega
            as_aux_lemma =>
              go_wp2_with fail
              go_ret
              exact ⟨rfl, HB.out⟩

          obtain ⟨b, off, rfl, hb, hc⟩ := HSR.out.at (by omega)
          obtain ⟨q0, q1⟩ := hc k hlt
          have c0 := (HB.out.cell (p := ⟨b, off + k * 2, none⟩) hb).trans q0
          have c1 := (HB.out.cell (p := ⟨b, off + k * 2 + 1, none⟩) hb).trans q1
          obtain ⟨b3, off3, rfl, hb3, hc3⟩ := HNR.out.2.resolve_left (by omega)
          have n0 := (HB.out.cell (p := ⟨b3, off3 + k, none⟩) hb3).trans (hc3 k (by omega))
          obtain ⟨hne, hp1, hp2⟩ := HPT.out k hlt
          obtain ⟨hx1, hx2⟩ := HXT.out k (by omega)
          have HV := Lib.hid (HTS.out k hlt)
          have HTN : Hid (turnTo s sent (k + 1) = if k = 0 ∨ (turnTo s sent k).2 < behind s sent k then ((s.getD k noShr).c, behind s sent k) else turnTo s sent k) := rfl
          have HSO := Lib.hid (HSO0.out k (by omega))
          clear q0 q1 hc hc3
          have hb3w : b3 < wr.heap.size := Nat.lt_of_lt_of_le hb3 HB.out.size
          generalize behind s sent k = V at HV HTN
          generalize s.getD k noShr = c at c0 c1 hne hp1 hp2 HV HTN
          generalize sent.getD k 0 = x at n0 hx1 hx2 HV
          generalize turnTo s sent k = t1 at HTN HSO ⊢
          obtain ⟨cc, cp⟩ := c
          obtain ⟨tb, tm⟩ := t1
          simp only at c0 c1 hne hp1 hp2 HV HTN
          have hM0 : 0 ≤ cp * (A + 1) := Int.mul_nonneg (by omega) (by omega)
          have hM1 : cp * (A + 1) ≤ 1000 * 1000000000000001 := Int.mul_le_mul hp2 (by omega) (by omega) (by omega)
          have w1 : IntKind.i64.wrap (A + 1) = A + 1 := IntWalk.i64_in _ (by omega)
          have w2 : IntKind.i64.wrap (cp * (A + 1)) = cp * (A + 1) := IntWalk.i64_in _ (by omega)
          have w3 : IntKind.i64.wrap (1000 * x) = 1000 * x := IntWalk.i64_in _ (by omega)
          have w4 : IntKind.i64.wrap (cp * (A + 1) - 1000 * x) = V := by rw [HV.out]; exact IntWalk.i64_in _ (by omega)
          clear HV
          as_aux_lemma =>
            go_wp2_with fail
            go_quiet (fail)
            have HBA : Hid (Below w0.heap.size w0 (wr.alloc (.cells #[.string ⟨cc.toArray⟩, .int .i64 cp] 110))) := ext_alloc HB.out
            by_cases hk0 : k = 0
            · have htb : tb = [] := HSO.out.2 hk0
              subst htb
              subst hk0
              have HT2 : Hid (turnTo s sent (0 + 1) = (cc, V)) := by show _ = _; rw [HTN.out, if_pos (Or.inl rfl)]
              clear HTN HSO
              as_aux_lemma =>
                go_wp2_with fail
                go_quiet (fail)
                go_wp2_with fail
                go_roundw
                case rel => exact ⟨1, by omega, by go_num, by rw [HT2.out], by rw [HT2.out], ext_drewN HBA.out⟩
                case measure => simp [intOf]; omega
            · have htb : tb ≠ [] := fun h => hk0 (HSO.out.1 h)
              obtain ⟨z, tb, rfl⟩ : ∃ z r, tb = z :: r := by
                cases tb with
                | nil => exact absurd rfl htb
                | cons z r => exact ⟨z, r, rfl⟩
              clear htb HSO
              by_cases hlt2 : tm < V
              · have HT2 : Hid (turnTo s sent (k + 1) = (cc, V)) := by show _ = _; rw [HTN.out, if_pos (Or.inr hlt2)]
                clear HTN
                as_aux_lemma =>
                  go_wp2_with fail
                  go_quiet (fail)
                  go_wp2_with fail
                  go_roundw
                  case rel => exact ⟨k + 1, by omega, by go_num, by rw [HT2.out], by rw [HT2.out], ext_drewN HBA.out⟩
                  case measure => simp [intOf]; omega
              · have HT2 : Hid (turnTo s sent (k + 1) = (z :: tb, tm)) := by show _ = _; rw [HTN.out, if_neg (fun h => h.elim hk0 hlt2)]
                clear HTN
                as_aux_lemma =>
                  go_wp2_with fail
                  go_roundw
                  case rel => exact ⟨k + 1, by omega, by go_num, by rw [HT2.out], by rw [HT2.out], ext_drewN HBA.out⟩
                  case measure => simp [intOf]; omega
end Go.Proofs.YtppinnjdaoaddaaGreatDoor

set_option linter.unusedVariables false
set_option linter.unusedSimpArgs false
namespace Go.Proofs.YtppinnjdaoaddaaGreatDoor
open Go.RowKit

/-- The table of powers of ten is laid, ahead of block S. -/
def TabW (S : Nat) (w : World) : Prop := Lib.TabIs Tryz.prog w "internal/strconv.uint64pow10" .u64 Lib.pow10Tab ∧ 1 < S
theorem gPow : Tryz.prog.globalNamed "internal/strconv.uint64pow10" = some 1 := by kernel_rfl
theorem tab_block {w w' : World} {S : Nat} (h : TabW S w) (hb : w'.heap[1]? = w.heap[1]?) : TabW S w' := by
  refine ⟨?_, h.2⟩
  have h1 := h.1
  unfold Lib.TabIs World.var? at h1 ⊢
  rw [gPow] at h1 ⊢
  simp only [Option.bind_some] at h1 ⊢
  rw [hb]
  exact h1
theorem tab_keeps {w w' : World} {S : Nat} (h : TabW S w) (hk : Keeps S w w') (hS : S < w.heap.size) : TabW S w' :=
  tab_block h (hk.block _ (Nat.lt_trans h.2 hS) (Nat.ne_of_lt h.2))
theorem tab_below {w w' : World} {S B : Nat} (h : TabW S w) (hb : Below B w w') (hS : S ≤ B) : TabW S w' :=
  tab_block h (hb.block _ (Nat.lt_of_lt_of_le h.2 hS))
theorem below_grow (w : World) (q : Nat) (os : Array Obj) : Below w.heap.size w (Go.Sort.grow (w.drewN q) os) := by
  refine ⟨rfl, rfl, rfl, ?_, fun k hk => Go.Sort.heap_grow_old _ _ hk⟩
  rw [Go.Sort.size_grow]
  exact Nat.le_add_right _ _
end Go.Proofs.YtppinnjdaoaddaaGreatDoor

set_option linter.unusedVariables false
set_option linter.unusedSimpArgs false
namespace Go.Proofs.YtppinnjdaoaddaaGreatDoor
open Go.RowKit

section
variable {P : Program} {ops : Array Oper} {Q : Exit → Act → World → Prop} {m : Nat} {st : Oper}

/-- Operation m waits, through others, for all ahead of it but those in pre; no guards; edges go down. -/
def preChk (ops : Array Oper) (m : Nat) (pre : List Nat) : Bool :=
  ((List.range m).all fun i => pre.contains i || (List.range (m + 1)).any fun k => decide (i < k) && ((ops[k]?).map fun o => o.after.any fun e => Region.binds .any e && e.on == i).getD false) &&
  ((List.range (m + 1)).all fun i => ((ops[i]?).map fun o => o.guard.isNone && o.after.all fun e => !(Region.binds .any e) || decide (e.on < i)).getD false)
theorem pchk1 {pre : List Nat} (hc : preChk ops m pre = true) (i : Nat) (hi : i < m) (hp : i ∉ pre) : ∃ k o, i < k ∧ k ≤ m ∧ ops[k]? = some o ∧ ∃ e ∈ o.after, Region.binds .any e = true ∧ e.on = i := by
  simp only [preChk, Bool.and_eq_true, List.all_eq_true, List.any_eq_true, List.mem_range, decide_eq_true_eq, Bool.or_eq_true] at hc
  obtain ⟨k, hk, hik, hk2⟩ := (hc.1 i hi).resolve_left (by simpa using hp)
  cases ho : ops[k]? with
  | none => simp [ho] at hk2
  | some o =>
    simp only [ho, Option.map_some, Option.getD_some] at hk2
    obtain ⟨e, he, hb⟩ := Array.any_eq_true'.1 hk2
    simp only [Bool.and_eq_true, beq_iff_eq] at hb
    exact ⟨k, o, hik, by omega, ho, e, he, hb.1, hb.2⟩
theorem pchk0 {pre : List Nat} (hc : preChk ops m pre = true) (i : Nat) (hi : i ≤ m) : ∃ o, ops[i]? = some o ∧ o.guard = none ∧ ∀ e ∈ o.after, Region.binds .any e = true → e.on < i := by
  simp only [preChk, Bool.and_eq_true, List.all_eq_true, List.mem_range] at hc
  have h := hc.2 i (by omega)
  cases ho : ops[i]? with
  | none => simp [ho] at h
  | some o =>
    simp only [ho, Option.map_some, Option.getD_some, Bool.and_eq_true, Option.isNone_iff_eq_none] at h
    refine ⟨o, rfl, h.1, fun e he hb => ?_⟩
    have h1 := Array.all_eq_true_iff_forall_mem.1 h.2 e he
    simpa [hb] using h1
theorem pchk2 {pre : List Nat} (hc : preChk ops m pre = true) (i : Nat) (hi : i ≤ m) : ∃ o, ops[i]? = some o ∧ ∀ e ∈ o.after, Region.binds .any e = true → e.on < i := by
  obtain ⟨o, h1, _, h2⟩ := pchk0 hc i hi
  exact ⟨o, h1, h2⟩
theorem pchk3 {pre : List Nat} (hc : preChk ops m pre = true) (i : Nat) (hi : i ≤ m) (o : Oper) (ho : ops[i]? = some o) : o.guard = none := by
  obtain ⟨o', h1, h2, _⟩ := pchk0 hc i hi
  rw [ho] at h1; cases h1; exact h2
/-- If the last may come up, all others are listed. -/
theorem all_listedP {pre : List Nat} (hc : preChk ops m pre = true) {l : Array Bool} (hl : l.size = m + 1) (hcl : ClosedL ops l) (hp : ∀ i ∈ pre, l.getD i false = true) (hr : m ∈ Region.ready .any ops l) : ∀ i, i < m → l.getD i true = true := by
  obtain ⟨_, om, hom, hall⟩ := mem_ready.1 hr
  have main : ∀ d i, i < m → m - i ≤ d → l.getD i false = true := by
    intro d
    induction d with
    | zero => intro i hi h; omega
    | succ d ih =>
      intro i hi h
      by_cases hip : i ∈ pre
      · exact hp i hip
      obtain ⟨k, o, hik, hkm, ho, e, he, hb, hon⟩ := pchk1 hc i hi hip
      rcases Nat.lt_or_ge k m with hk | hk
      · rw [← hon]; exact hcl k o ho (ih k hk (by omega)) e he hb
      · obtain rfl : k = m := by omega
        rw [hom] at ho; cases ho
        rw [← hon]; exact hall e he hb
  intro i hi
  rw [getD_two (by omega) true false]
  exact main (m - i) i hi (Nat.le_refl _)

/-- If none of the others may come up, all are listed. -/
theorem listed_of_noneP {pre : List Nat} (hc : preChk ops m pre = true) {l : Array Bool} (hl : l.size = m + 1) (hn : ∀ i, i < m → i ∉ Region.ready .any ops l) : ∀ i, i < m → l.getD i true = true := by
  intro i
  induction i using Nat.strongRecOn with
  | _ i ih =>
    intro hi
    rcases Bool.eq_false_or_eq_true (l.getD i true) with h | h
    · exact h
    · refine absurd (mem_ready.2 ⟨h, ?_⟩) (hn i hi)
      obtain ⟨o, ho, hd⟩ := pchk2 hc i (by omega)
      refine ⟨o, ho, fun e he hb => ?_⟩
      have := hd e he hb
      rw [getD_two (by omega) false true]
      exact ih e.on this (by omega)

theorem wpOp_lastP {pre : List Nat} {ops' : Array Oper} (hc : preChk ops m pre = true) (hsame : ∀ i, i < m → ops'[i]? = ops[i]?) {i : Nat} (hi : i < m) {K K' : Act → World → Prop} (hK : ∀ a w, K a w → K' a w) {a : Act} {w : World} (h : wpOp P ops' (lastQ P st Q) i K a w) : wpOp P ops Q i K' a w := by
  unfold wpOp at *
  rw [hsame i hi] at h
  cases ho : ops[i]? with
  | none => simp only [ho] at h ⊢; exact hK _ _ h
  | some o =>
    simp only [ho] at h ⊢
    have hw : Region.wanted o (yielded ops' a.tmps) = Region.wanted o (yielded ops a.tmps) := by
      unfold Region.wanted
      cases hgd : o.guard with
      | none => rfl
      | some gb =>
        obtain ⟨g, b⟩ := gb
        rw [pchk3 hc i (Nat.le_of_lt hi) o ho] at hgd; cases hgd
    rw [hw] at h
    split
    · rename_i hwt
      simp only [hwt, if_true] at h
      rcases h with h | ⟨h1, a1, w1, h2⟩
      · exact Or.inl (upon_last hK _ h)
      · exact Or.inr ⟨h1, a1, w1, h2⟩
    · rename_i hwt
      simp only [hwt] at h
      exact hK _ _ h

theorem last_anyP {pre : List Nat} {ops' : Array Oper} (hsz : ops.size = m + 1) (hst : ops[m]? = some st) (hg : st.guard = none) (hc : preChk ops m pre = true) (hsz' : ops'.size = m) (hsame : ∀ i, i < m → ops'[i]? = ops[i]?) :
    ∀ (fuel : Nat) (l l' : Array Bool) (a : Act) (w : World), l.size = m + 1 → l'.size = m → (∀ i, i < m → l'.getD i true = l.getD i true) → l.getD m true = false → ClosedL ops l → (∀ i ∈ pre, l.getD i false = true) →
      wpAny P .any ops' (lastQ P st Q) fuel l' a w → wpAny P .any ops Q (fuel + 1) l a w := by
  have rdy : ∀ {l l' : Array Bool} {i : Nat}, l.size = m + 1 → l'.size = m → (∀ i, i < m → l'.getD i true = l.getD i true) → i < m → (i ∈ Region.ready .any ops l ↔ i ∈ Region.ready .any ops' l') := by
    intro l l' i hl hl' he hi
    rw [mem_ready, mem_ready, hsame i hi, he i hi]
    obtain ⟨o, ho, hd⟩ := pchk2 hc i (by omega)
    have key : ∀ e ∈ o.after, Region.binds .any e = true → l'.getD e.on false = l.getD e.on false := fun e hem hb => by
      have := hd e hem hb
      rw [getD_two (by omega) false true, he e.on (by omega), getD_two (l := l) (by omega) false true]
    constructor
    · rintro ⟨h0, o', ho', hall⟩
      rw [ho] at ho'; cases ho'
      exact ⟨h0, o, ho, fun e hem hb => by rw [key e hem hb]; exact hall e hem hb⟩
    · rintro ⟨h0, o', ho', hall⟩
      rw [ho] at ho'; cases ho'
      exact ⟨h0, o, ho, fun e hem hb => by rw [← key e hem hb]; exact hall e hem hb⟩
  have rlt : ∀ {l' : Array Bool} {i : Nat}, i ∈ Region.ready .any ops' l' → i < m := fun hi => by
    obtain ⟨_, o, ho, _⟩ := mem_ready.1 hi
    have := (Array.getElem?_eq_some_iff.1 ho).1
    omega
  have mrdy : ∀ {l : Array Bool}, l.size = m + 1 → l.getD m true = false → (∀ i, i < m → l.getD i true = true) → m ∈ Region.ready .any ops l := fun {l} hl hm h => by
    obtain ⟨o, ho, hd⟩ := pchk2 hc m (Nat.le_refl _)
    exact mem_ready.2 ⟨hm, o, ho, fun e he hb => by have := hd e he hb; rw [getD_two (by omega) false true]; exact h _ this⟩
  have ile : ∀ {l : Array Bool} {i : Nat}, i ∈ Region.ready .any ops l → i ≤ m := fun hi => by
    obtain ⟨_, o, ho, _⟩ := mem_ready.1 hi
    have := (Array.getElem?_eq_some_iff.1 ho).1
    omega
  have nonempty : ∀ {l l' : Array Bool}, l.size = m + 1 → l'.size = m → (∀ i, i < m → l'.getD i true = l.getD i true) → l.getD m true = false → Region.ready .any ops l ≠ [] := by
    intro l l' hl hl' he hm h0
    have h1 := listed_of_noneP hc hl (fun i hi hr => by rw [h0] at hr; cases hr)
    have := mrdy hl hm h1
    rw [h0] at this; cases this
  intro fuel
  induction fuel with
  | zero =>
    intro l l' a w hl hl' he hm hcl hp H
    refine ⟨fun h0 => absurd h0 (nonempty hl hl' he hm), fun i hi => ?_⟩
    by_cases him : i = m
    · subst him
      exact last_step hsz hst hg hl (all_listedP hc hl hcl hp hi) H.2 0
    · have := (rdy hl hl' he (by have := ile hi; omega)).1 hi
      rw [H.1] at this; cases this
  | succ fuel ih =>
    intro l l' a w hl hl' he hm hcl hp H
    refine ⟨fun h0 => absurd h0 (nonempty hl hl' he hm), fun i hi => ?_⟩
    by_cases him : i = m
    · subst him
      have hall := all_listedP hc hl hcl hp hi
      refine last_step hsz hst hg hl hall (H.1 ?_) (fuel + 1)
      refine List.eq_nil_iff_forall_not_mem.2 fun j hj => ?_
      have hjm := rlt hj
      have h0 := (mem_ready.1 hj).1
      rw [he j hjm, hall j hjm] at h0; cases h0
    · have hilt : i < m := by have := ile hi; omega
      refine wpOp_lastP hc hsame hilt (fun a' w' h' => ?_) (H.2 i ((rdy hl hl' he hilt).1 hi))
      refine ih _ _ a' w' (by simpa using hl) (by simpa using hl') (fun j hj => ?_) ?_ (hcl.set hi) (fun j hj => getD_set_true (hp j hj)) h'
      · by_cases hji : j = i
        · subst hji; simp [hl, hl', hj, Nat.lt_succ_of_lt hj]
        · rw [getD_set_ne true (Ne.symm hji), getD_set_ne true (Ne.symm hji)]; exact he j hj
      · rw [getD_set_ne true him]; exact hm

/-- The tail, where those in pre have come up. -/
def tailChkP (ops : Array Oper) (m : Nat) (pre : List Nat) : Bool := (List.range ops.size).all fun k => decide (k < m) || preChk (ops.extract 0 (k + 1)) k pre
theorem tail_anyP (m : Nat) (pre : List Nat) (hc : tailChkP ops m pre = true) (l : Array Bool) (hl : l.size = ops.size) (hlm : ∀ k, m ≤ k → k < ops.size → l.getD k true = false) (hp : ∀ i ∈ pre, i < m ∧ l.getD i false = true) (hcl : ClosedL ops l) : ∀ (d k fuel : Nat), k + d = ops.size → m ≤ k → ∀ (a : Act) (w : World), wpAny P .any (ops.extract 0 k) (tailQ P ops Q k) fuel (l.extract 0 k) a w → wpAny P .any ops Q (fuel + d) l a w := by
  have gx : ∀ (k i : Nat) (b : Bool), i < k → k ≤ ops.size → (l.extract 0 k).getD i b = l.getD i b := by
    intro k i b hi hk
    simp only [Array.getD_eq_getD_getElem?, Array.getElem?_extract, Nat.zero_add, Nat.sub_zero]
    rw [if_pos (by omega)]
  intro d
  induction d with
  | zero =>
    intro k fuel hk hm a w h
    obtain rfl : k = ops.size := by omega
    rw [show ops.extract 0 ops.size = ops by simp, show l.extract 0 ops.size = l by rw [← hl]; simp] at h
    refine wpAny_monoQ (fun a w h => ?_) (fun e a w hn h => by rw [tailQ_other hn] at h; exact h) _ _ a w h
    have h' : tailQ.wpTail P Q (ops.toList.drop ops.size) a w := h
    rw [List.drop_of_length_le (by simp)] at h'
    exact h'
  | succ d ih =>
    intro k fuel hk hm a w h
    rw [show fuel + (d + 1) = (fuel + 1) + d by omega]
    refine ih (k + 1) (fuel + 1) (by omega) (by omega) a w ?_
    have hc' := List.all_eq_true.1 hc k (by simp; omega)
    simp only [Bool.or_eq_true, decide_eq_true_eq] at hc'
    have hcl' := hc'.resolve_left (by omega)
    have hlt : k < ops.size := by omega
    have ho : ops[k]? = some ops[k] := by simp [hlt]
    have hgn : ops[k].guard = none := pchk3 hcl' k (Nat.le_refl _) _ (by rw [ext_get _ _ _ (Nat.lt_succ_self k)]; exact ho)
    refine last_anyP (m := k) (st := ops[k]) (ops := ops.extract 0 (k + 1)) (ops' := ops.extract 0 k) (by simp; omega) (by rw [ext_get _ _ _ (Nat.lt_succ_self k)]; exact ho) hgn hcl' (by simp; omega) (fun i hi => by rw [ext_get _ _ _ hi, ext_get _ _ _ (Nat.lt_succ_of_lt hi)]) fuel (l.extract 0 (k + 1)) (l.extract 0 k) a w (by simp; omega) (by simp; omega) (fun i hi => by rw [gx k i true hi (by omega), gx (k + 1) i true (by omega) (by omega)]) (by rw [gx (k + 1) k true (by omega) (by omega)]; exact hlm k hm hlt) ?_ (fun i hi => by rw [gx (k + 1) i false (by have := (hp i hi).1; omega) (by omega)]; exact (hp i hi).2) ?_
    · intro i o hoi hli e he hb
      by_cases h' : i < k + 1
      · rw [ext_get _ _ _ h'] at hoi
        rw [gx (k + 1) i false h' (by omega)] at hli
        have h9 := hcl i o hoi hli e he hb
        obtain ⟨o', h1, h2⟩ := pchk2 hcl' i (by omega)
        rw [ext_get _ _ _ h', hoi] at h1; cases h1
        have := h2 e he hb
        rw [gx (k + 1) e.on false (by omega) (by omega)]; exact h9
      · rw [ext_get_no _ _ _ h'] at hoi; cases hoi
    · refine wpAny_monoQ (fun a w h => ?_) (fun e a w hn h => ?_) _ _ a w h
      · have h' : tailQ.wpTail P Q (ops.toList.drop k) a w := h
        rw [List.drop_eq_getElem_cons (by simpa using hlt)] at h'
        have h2 : ops[k].wp P a w (tailQ.wpTail P Q (ops.toList.drop (k + 1))) Q ∨ (ops[k].asks P a w ∧ LetsOut Q) := by simpa [tailQ.wpTail] using h'
        show Oper.wp P ops[k] a w (fun a' w' => tailQ P ops Q (k + 1) .normal a' w') (tailQ P ops Q (k + 1)) ∨ (ops[k].asks P a w ∧ LetsOut (tailQ P ops Q (k + 1)))
        refine h2.imp (fun h2 => ?_) (fun h2 => h2)
        unfold Oper.wp at *
        generalize (execOp a.eval ops[k]).run P w = r at *
        cases r with
        | ok n w' =>
          cases n <;> simp only [Oper.upon] at h2 ⊢ <;>
            first
              | exact h2
              | exact Calls.mono h2 (fun e w'' he => by cases e <;> exact he)
              | exact Rows.mono h2 (fun _ _ he => he)
        | halt x w' => cases x <;> simp only [Oper.upon] at h2 ⊢ <;> exact h2
      · rw [tailQ_other hn] at h
        show lastQ P ops[k] (tailQ P ops Q (k + 1)) e a w
        cases e <;> first | exact absurd rfl hn | exact h
theorem gen_pre {W : Nat} {pre : List Nat} {a0 : Act} {S k : Nat} {w0 : World} {specs : List Spec} {calls : List Nat} (hsz : ops.size = m + 1) (hc : genChk ops a0.tmps.size m calls = true) (hlen : specs.length = m) (hst : ops[m]? = some st) (hsg : st.guard = none) (hpre : preChk ops m pre = true)
    (hstep : ∀ i o s, i < m → ops[i]? = some o → specs[i]? = some s → LateOp P ops Q a0 S k W w0 specs calls i o s)
    (hA : ∀ (vals : Nat → Value) (w : World), Keeps S w0 w → StreamOk w S (k + W * calls.length) → (∀ (i : Nat) (s : Spec), specs[i]? = some s → s.holds S w (vals i)) → lastQ P st Q .normal (putSome ops vals (fun _ => true) (List.range m) a0) w) :
    ∀ (fuel : Nat) (l : Array Bool) (vals : Nat → Value) (w : World), l.size = m + 1 → l.getD m true = false → ClosedL ops l → (∀ i ∈ pre, l.getD i false = true) → Keeps S w0 w → StreamOk w S (k + W * calls.countP (fun i => l.getD i true)) → (∀ (i : Nat) (s : Spec), l.getD i true = true → specs[i]? = some s → s.holds S w (vals i)) → (l.toList.countP (fun b => !b) ≤ fuel) →
      wpAny P .any ops Q fuel l (putSome ops vals (fun i => l.getD i true) (List.range m) a0) w := by
  simp only [genChk, Bool.and_eq_true, List.all_eq_true, List.mem_range, decide_eq_true_eq, Bool.or_eq_true, beq_iff_eq] at hc
  obtain ⟨⟨⟨⟨⟨hdst, hgd⟩, hmn⟩, h1n⟩, hnd⟩, hcm⟩ := hc
  have hdown : ∀ i, i < m + 1 → ∃ o, ops[i]? = some o ∧ ∀ e ∈ o.after, Region.binds .any e = true → e.on < i := fun i hi => pchk2 hpre i (by omega)
  have dlt' : ∀ i t, dstOf ops i = some t → i < ops.size := by
    intro i t h
    rcases Nat.lt_or_ge i ops.size with h' | h'
    · exact h'
    · unfold dstOf at h; rw [Array.getElem?_eq_none h'] at h; cases h
  have dne : ∀ i j, i ≠ j → ∀ t, dstOf ops j = some t → dstOf ops i ≠ some t := by
    intro i j hij t hj hi
    have := (hdst i (dlt' i t hi) j (dlt' j t hj)).resolve_left hij
    simp [hi, hj] at this
  have dlt : ∀ i t, dstOf ops i = some t → t < a0.tmps.size := by
    intro i t hi
    have hj : ∃ j, j < ops.size ∧ i ≠ j := if h : i = 0 then ⟨1, by omega, by omega⟩ else ⟨0, by omega, h⟩
    obtain ⟨j, hj, hij⟩ := hj
    have := (hdst i (dlt' i t hi) j hj).resolve_left hij
    simp [hi] at this
    exact this.1
  have cntAll : ∀ l : Array Bool, (∀ i, i < m → l.getD i true = true) → calls.countP (fun i => l.getD i true) = calls.length := fun l h => List.countP_eq_length.2 (fun i hi => h i (by simpa using hcm i hi))
  intro fuel
  induction fuel with
  | zero =>
    intro l vals w hl hlm hcl hp hk hstm hs hf
    exfalso
    have : 0 < l.toList.countP (fun b => !b) := List.countP_pos_iff.2 ⟨false, by
      have hlt : m < l.size := by omega
      have : l[m] = false := by simpa [hlt] using hlm
      rw [← this]; simp, rfl⟩
    omega
  | succ fuel ih =>
    intro l vals w hl hlm hcl hp hk hstm hs hf
    have cntSet : ∀ i, i < l.size → l.getD i true = false → (l.setIfInBounds i true).toList.countP (fun b => !b) + 1 = l.toList.countP (fun b => !b) := by
      intro i hilt hun
      have hli : l[i] = false := by simpa [hilt] using hun
      have hpos : 0 < l.toList.countP (fun b => !b) := List.countP_pos_iff.2 ⟨false, by rw [← hli]; simp, rfl⟩
      have := List.countP_set (p := fun b : Bool => !b) (l := l.toList) (i := i) (a := true) (by simpa using hilt)
      have e4 : l.toList[i]'(by simpa using hilt) = false := by simpa using hli
      rw [Array.toList_setIfInBounds, this, e4]
      rw [if_pos (by decide : (!false) = true), if_neg (by decide : ¬ (!true) = true)]
      omega
    refine ⟨fun h0 => ?_, fun i hi => ?_⟩
    · exfalso
      have hall : ∀ i, i < m + 1 → l.getD i true = true := by
        intro i
        induction i using Nat.strongRecOn with
        | _ i ihi =>
          intro hi
          rcases Bool.eq_false_or_eq_true (l.getD i true) with h | h
          · exact h
          · exfalso
            obtain ⟨o, ho, hd⟩ := hdown i hi
            have : i ∈ Region.ready .any ops l := mem_ready.2 ⟨h, o, ho, fun e he hb => by rw [getD_two (by have := hd e he hb; omega) false true]; exact ihi e.on (hd e he hb) (by have := hd e he hb; omega)⟩
            rw [h0] at this; cases this
      rw [hall m (by omega)] at hlm; cases hlm
    · obtain ⟨hun, o, ho, hall⟩ := mem_ready.1 hi
      have hile : i ≤ m := by have := (Array.getElem?_eq_some_iff.1 ho).1; omega
      by_cases him : i = m
      · subst him
        rw [hst] at ho; cases ho
        have hothers := all_listedP hpre hl hcl hp hi
        unfold wpOp
        simp only [hst]
        rw [if_pos (by simp [Region.wanted, hsg])]
        rw [cntAll l hothers] at hstm
        have e1 : putSome ops vals (fun j => l.getD j true) (List.range i) a0 = putSome ops vals (fun _ => true) (List.range i) a0 := putSome_congr _ _ (fun j hj => ⟨hothers j (List.mem_range.1 hj), fun _ => rfl⟩)
        rw [e1]
        refine (hA vals w hk hstm (fun j s h => hs j s (hothers j (by have := (List.getElem?_eq_some_iff.1 h).1; omega)) h)).imp (Oper.wp_mono (fun a' w' h' => wpAny_done (ready_all hsz fun j hj => ?_) h' fuel)) id
        by_cases hji : j = i
        · subst hji; simp [hl]
        · rw [getD_set_ne true (Ne.symm hji)]; exact hothers j (by omega)
      · have him' : i < m := by omega
        have hilt : i < l.size := by omega
        obtain ⟨s, hsi⟩ : ∃ s, specs[i]? = some s := ⟨specs[i]'(by omega), by simp⟩
        have hguard : o.guard = none := by
          have hx := hgd i him'
          simpa [ho] using hx
        have hdo : dstOf ops i = o.dst := by simp [dstOf, ho]
        unfold wpOp
        simp only [ho]
        rw [if_pos (by simp [Region.wanted, hguard])]
        refine Or.inl ?_
        have hcnt := countP_set calls hnd (fun j => l.getD j true) i hun
        refine hstep i o s him' ho hsi _ w (calls.countP fun j => l.getD j true) hk hstm ?_ ?_ ?_ _ ?_
        · rw [← hcnt]; exact List.countP_le_length
        · intro t ht
          refine putSome_eval_other _ _ (fun j hj => ?_)
          intro hjt
          have hjm := List.mem_range.1 hj
          unfold dstOf at hjt
          cases hoj : ops[j]? with
          | none => rw [hoj] at hjt; cases hjt
          | some oj =>
            rw [hoj] at hjt
            have h9 : (ops.extract 0 specs.length)[j]? = some oj := by rw [ext_get _ _ _ (by omega)]; exact hoj
            have := Array.all_eq_true_iff_forall_mem.1 ht oj (Array.mem_of_getElem? h9)
            simp at this hjt
            exact this hjt
        · intro j t s' hj ht hs'
          obtain ⟨e, he, hb⟩ := Array.any_eq_true'.1 hj
          simp only [Bool.and_eq_true, beq_iff_eq] at hb
          obtain ⟨hb, rfl⟩ := hb
          have hlt : e.on < m := by have := (List.getElem?_eq_some_iff.1 hs').1; omega
          have hon' : l.getD e.on true = true := by rw [getD_two (by omega) true false]; exact hall e he hb
          rw [putSome_eval (i := e.on) _ _ List.nodup_range (List.mem_range.2 hlt) hon' ht (dlt _ _ ht) (fun j _ hj => fun h2 => dne e.on j (Ne.symm hj) t h2 ht)]
          exact hs e.on s' hon' hs'
        · intro v w' hv hkw hst'
          have e2 := putSome_set (ops := ops) (vals := vals) (listed := fun j => l.getD j true) (i := i) v (List.range m) a0 List.nodup_range (List.mem_range.2 him') hun (fun j _ hj t ht => dne i j (Ne.symm hj) t ht)
          have e3 : (fun j => if j = i then true else l.getD j true) = fun j => (l.setIfInBounds i true).getD j true := by
            funext j
            by_cases hji : j = i
            · subst hji; simp [hilt]
            · simp only [hji, if_false]; rw [getD_set_ne true (Ne.symm hji)]
          rw [← hdo, ← e2, e3]
          refine ih _ _ w' (by simpa using hl) (by rw [getD_set_ne true him]; exact hlm) (hcl.set hi) (fun j hj => getD_set_true (hp j hj)) (hk.trans hkw) ?_ ?_ ?_
          · rw [← e3, hcnt]; exact hst'
          · intro j s' hj hs'
            by_cases hji : j = i
            · subst hji
              rw [hsi] at hs'; cases hs'
              simp only [if_true]; exact hv
            · simp only [hji, if_false]
              rw [getD_set_ne true (Ne.symm hji)] at hj
              exact (hs j s' hj hs').keeps hkw
          · have := cntSet i hilt hun
            omega

theorem held_of_any : ∀ (fuel : Nat) (l : Array Bool) (a : Act) (w : World), wpAny P .any ops Q fuel l a w → wpAnyH P .any ops Q (fun _ => True) fuel l a w
  | 0, _, _, _, h => h
  | fuel + 1, _, _, _, h => ⟨h.1, fun i hi => wpOp_mono (fun a' w' h' => ⟨trivial, held_of_any fuel _ a' w' h'⟩) (h.2 i hi)⟩
/-- The array in which those of pre have come up. -/
def preArr (n : Nat) (pre : List Nat) : Array Bool := pre.foldl (fun l i => l.setIfInBounds i true) (Array.replicate n false)
/-- Those of pre may be taken first, one behind the other. -/
def preFree (ops : Array Oper) : List Nat → Array Bool → Bool
  | [], _ => true
  | i :: r, l => (ops[i]?).isSome && Region.free .any ops l i && (Region.ready .any ops l).contains i && preFree ops r (l.setIfInBounds i true)
def preYields (P : Program) (ops : Array Oper) (Q : Exit → Act → World → Prop) : List (Nat × Oper × Value) → Act → Prop
  | [], _ => True
  | (i, o, v) :: r, a => ops[i]? = some o ∧ YieldsIf P ops (fun _ => True) o v a ∧ (∀ c a w, Q (.panic c) (a.put o.dst v) w → Q (.panic c) a w) ∧ preYields P ops Q r (a.put o.dst v)
theorem pre_taken (hs : Region.noSelect ops = true) : ∀ (pv : List (Nat × Oper × Value)) (l : Array Bool) (fuel : Nat) (a : Act) (w : World), preFree ops (pv.map (·.1)) l = true → preYields P ops Q pv a →
    wpAnyH P .any ops Q (fun _ => True) fuel ((pv.map (·.1)).foldl (fun l i => l.setIfInBounds i true) l) (pv.foldl (fun a x => a.put x.2.1.dst x.2.2) a) w → wpAnyH P .any ops Q (fun _ => True) (fuel + pv.length) l a w
  | [], l, fuel, a, w, _, _, h => h
  | (i, o, v) :: r, l, fuel, a, w, hf, hy, h => by
    simp only [List.map_cons, preFree, Bool.and_eq_true] at hf
    obtain ⟨ho, hyi, hq, hr⟩ := hy
    exact wpAnyH_take ho hs hf.1.1.2 hf.1.2 hq hyi trivial (pre_taken hs r _ fuel _ w hf.2 hr h)

/-- Each of the operations behind m waits for the one ahead of it. -/
def chainChk (L : List Oper) (m : Nat) : Bool := (L.drop (m + 1)).zipIdx.all fun x => x.1.guard.isNone && (x.1.after.toList.any fun e => Region.binds .any e && e.on == m + x.2) && x.1.after.toList.all fun e => !(Region.binds .any e) || decide (e.on < m + 1 + x.2)
/-- The same check as preChk, on a list. -/
def preChkL (L : List Oper) (m : Nat) (pre : List Nat) : Bool :=
  ((List.range m).all fun i => pre.contains i || ((L.take (m + 1)).drop (i + 1)).any fun o => o.after.toList.any fun e => Region.binds .any e && e.on == i) &&
  ((L.take (m + 1)).zipIdx.all fun x => x.1.guard.isNone && x.1.after.toList.all fun e => !(Region.binds .any e) || decide (e.on < x.2)) && decide (m < L.length)
theorem preChk_of_list {L : List Oper} {m : Nat} {pre : List Nat} (h : preChkL L m pre = true) : preChk (L.toArray.extract 0 (m + 1)) m pre = true := by
  simp only [preChkL, Bool.and_eq_true, List.all_eq_true, List.mem_range, Bool.or_eq_true, List.any_eq_true, decide_eq_true_eq] at h
  obtain ⟨⟨h1, h2⟩, hlt⟩ := h
  have gt : ∀ i, i < m + 1 → ∃ o, L[i]? = some o ∧ (L.toArray.extract 0 (m + 1))[i]? = some o := fun i hi => by
    have : i < L.length := by omega
    exact ⟨L[i], by simp [this], by rw [ext_get _ _ _ hi]; simp [this]⟩
  simp only [preChk, Bool.and_eq_true, List.all_eq_true, List.mem_range, Bool.or_eq_true, List.any_eq_true, decide_eq_true_eq]
  refine ⟨fun i hi => (h1 i hi).imp id ?_, fun i hi => ?_⟩
  · rintro ⟨o, ho, e, he, hb⟩
    obtain ⟨j, hj⟩ := List.getElem?_of_mem ho
    rw [List.getElem?_drop, List.getElem?_take] at hj
    split at hj
    · rename_i hlt2
      refine ⟨i + 1 + j, by omega, by omega, ?_⟩
      rw [ext_get _ _ _ (by omega)]
      rw [show L.toArray[i + 1 + j]? = some o by simpa using hj]
      simp only [Option.map_some, Option.getD_some]
      exact Array.any_eq_true'.2 ⟨e, by simpa using he, by simpa using hb⟩
    · cases hj
  · obtain ⟨o, ho, ho2⟩ := gt i hi
    rw [ho2]
    simp only [Option.map_some, Option.getD_some, Bool.and_eq_true]
    have h3 := h2 (o, i) (by
      rw [List.mk_mem_zipIdx_iff_getElem?, List.getElem?_take, if_pos hi]; exact ho)
    exact ⟨h3.1, Array.all_eq_true_iff_forall_mem.2 (fun e he => by have := h3.2 e (by simpa using he); simpa using this)⟩
theorem tail_of_chain {L : List Oper} {m : Nat} {pre : List Nat} (h : preChkL L m pre = true) (hc : chainChk L m = true) : tailChkP L.toArray m pre = true := by
  have main : ∀ d, m + d < L.length → preChkL L (m + d) pre = true := by
    intro d
    induction d with
    | zero => intro _; exact h
    | succ d ih =>
      intro hd
      have hi := ih (by omega)
      simp only [preChkL, Bool.and_eq_true, List.all_eq_true, List.mem_range, Bool.or_eq_true, List.any_eq_true, decide_eq_true_eq] at hi ⊢
      obtain ⟨⟨h1, h2⟩, h3⟩ := hi
      have hk : L[m + 1 + d]? = some (L[m + 1 + d]'(by omega)) := by simp [show m + 1 + d < L.length by omega]
      simp only [chainChk, Bool.and_eq_true, List.all_eq_true, List.any_eq_true] at hc
      have hx := hc (L[m + 1 + d]'(by omega), d) (by rw [List.mk_mem_zipIdx_iff_getElem?, List.getElem?_drop]; exact hk)
      obtain ⟨⟨hg, ⟨e, he, hb⟩⟩, hdn⟩ := hx
      refine ⟨⟨fun i hlt => ?_, fun x hx2 => ?_⟩, by omega⟩
      · by_cases hid : i < m + d
        · refine (h1 i hid).imp id ?_
          rintro ⟨o, ho, hr⟩
          refine ⟨o, ?_, hr⟩
          obtain ⟨j, hj⟩ := List.getElem?_of_mem ho
          rw [List.getElem?_drop, List.getElem?_take] at hj
          split at hj
          · refine List.mem_of_getElem? (i := j) ?_
            rw [List.getElem?_drop, List.getElem?_take, if_pos (by omega)]; exact hj
          · cases hj
        · obtain rfl : i = m + d := by omega
          refine Or.inr ⟨L[m + 1 + d]'(by omega), ?_, e, he, hb⟩
          refine List.mem_of_getElem? (i := 0) ?_
          rw [List.getElem?_drop, List.getElem?_take, if_pos (by omega), show m + d + 1 + 0 = m + 1 + d by omega]; exact hk
      · obtain ⟨o, q⟩ := x
        rw [List.mk_mem_zipIdx_iff_getElem?, List.getElem?_take] at hx2
        split at hx2
        · rename_i hq
          by_cases hq2 : q < m + d + 1
          · exact h2 (o, q) (by rw [List.mk_mem_zipIdx_iff_getElem?, List.getElem?_take, if_pos hq2]; exact hx2)
          · obtain rfl : q = m + 1 + d := by omega
            rw [hk] at hx2; cases hx2
            exact ⟨hg, fun e he => by have := hdn e he; simpa [show m + (d + 1) = m + 1 + d by omega] using this⟩
        · cases hx2
  refine List.all_eq_true.2 fun k hk => ?_
  have hk := List.mem_range.1 hk
  simp only [Bool.or_eq_true, decide_eq_true_eq]
  by_cases hkm : k < m
  · exact Or.inl hkm
  · refine Or.inr (preChk_of_list ?_)
    have := main (k - m) (by simp at hk; omega)
    rwa [show m + (k - m) = k by omega] at this
def valsOf (pv : List (Nat × Oper × Value)) (i : Nat) : Value := ((pv.find? (fun x => x.1 == i)).map (·.2.2)).getD undef
/-- What is asked of those of pre, closed. -/
def preAll (ops : Array Oper) (m : Nat) (pre calls : List Nat) (l : Array Bool) : Bool :=
  l.size == ops.size && ((List.range ops.size).all fun k => decide (k < m) || !(l.getD k true)) && (pre.all fun i => decide (i < m) && l.getD i false) &&
  ((List.range ops.size).all fun i => !(l.getD i false) || ((ops[i]?).map fun o => o.after.all fun e => !(Region.binds .any e)).getD true) && (calls.all fun i => !(l.getD i true)) && ((List.range m).all fun i => !(l.getD i true) || pre.contains i) &&
  decide (((l.extract 0 (m + 1)).toList.countP fun b => !b) ≤ m + 1 - pre.length) && decide (pre.length ≤ m ∧ 1 ≤ m)
theorem region_pre {L : List Oper} {id : Nat} {a0 : Act} {w : World} (S k W m : Nat) (pre : List Nat) (pv : List (Nat × Oper × Value)) (specs : List Spec) (calls : List Nat) (ds : List (Option Tmp)) {st : Oper} (hm : P.follows .mixedOrders = true) (hs : Region.noSelect L.toArray = true) (hpv : pv.map (·.1) = pre)
    (hfree : preFree L.toArray pre (Array.replicate L.toArray.size false) = true) (hyield : preYields P L.toArray Q pv a0) (hall : preAll L.toArray m pre calls (preArr L.toArray.size pre) = true) (hput : pv.foldl (fun a x => a.put x.2.1.dst x.2.2) a0 = putSome L.toArray (valsOf pv) (fun i => pre.contains i) (List.range m) a0)
    (hc : genChk L.toArray a0.tmps.size m calls = true) (hc2 : ((L.toArray.extract 0 (m + 1)).size == m + 1) = true) (ht1 : preChkL L m pre = true) (ht2 : chainChk L m = true) (hlen : specs.length = m)
    (hds : (List.range m).map (dstOf L.toArray) = ds) (hst : L[m]? = some st) (h0 : StreamOk w S k)
    (hsp : ∀ x ∈ pv, ∀ s, specs[x.1]? = some s → s.holds S w.drew x.2.2)
    (hstep : LateOps P L.toArray (tailQ P L.toArray Q (m + 1)) a0 S k W w.drew specs calls 0 (L.take m) specs)
    (hA : ∀ w', Keeps S w.drew w' → StreamOk w' S (k + W * calls.length) → ForVals S w' (fun a => wpList P L.toArray Q (st :: L.drop (m + 1)) a w') ds specs a0) : (Code.region id L.toArray true).wp P Q a0 w := by
  have ht := tail_of_chain ht1 ht2
  clear ht1 ht2
  subst hlen
  simp only [preAll, Bool.and_eq_true, beq_iff_eq, List.all_eq_true, List.mem_range, Bool.or_eq_true, decide_eq_true_eq, Bool.not_eq_true'] at hall
  obtain ⟨⟨⟨⟨⟨⟨⟨ha1, ha2⟩, ha3⟩, ha4⟩, ha5⟩, ha6⟩, ha7⟩, ha8⟩ := hall
  have hsz : (L.toArray.extract 0 (specs.length + 1)).size = specs.length + 1 := by simpa using hc2
  have hmL : specs.length + 1 ≤ L.length := by simp at hsz; omega
  have hpc : preChk (L.toArray.extract 0 (specs.length + 1)) specs.length pre = true := by
    have h := List.all_eq_true.1 ht specs.length (List.mem_range.2 (by simp; omega))
    simp only [Bool.or_eq_true, decide_eq_true_eq] at h
    exact h.resolve_left (by omega)
  have hsg : st.guard = none := pchk3 hpc specs.length (Nat.le_refl _) st (by rw [ext_get _ _ _ (by omega)]; simpa using hst)
  have ht1 : tailChkP L.toArray (specs.length + 1) pre = true := by
    refine List.all_eq_true.2 fun k hk => ?_
    have h := List.all_eq_true.1 ht k hk
    simp only [Bool.or_eq_true, decide_eq_true_eq] at h ⊢
    exact h.imp (fun h => by omega) (fun h => h)
  have tailNone : ∀ o ∈ L.drop (specs.length + 1), o.guard = none := by
    intro o ho
    obtain ⟨j, hj⟩ := List.getElem?_of_mem ho
    rw [List.getElem?_drop] at hj
    have hlt := (List.getElem?_eq_some_iff.1 hj).1
    have h := List.all_eq_true.1 ht (specs.length + 1 + j) (List.mem_range.2 (by simpa using hlt))
    simp only [Bool.or_eq_true, decide_eq_true_eq] at h
    exact pchk3 (h.resolve_left (by omega)) _ (Nat.le_refl _) o (by rw [ext_get _ _ _ (Nat.lt_succ_self _)]; simpa using hj)
  have dEq : ∀ j, j < specs.length → dstOf (L.toArray.extract 0 (specs.length + 1)) j = dstOf L.toArray j := fun j hj => by unfold dstOf; rw [ext_get _ _ _ (by omega)]
  have pEq : ∀ (vals : Nat → Value) (f : Nat → Bool) (l : List Nat), (∀ j ∈ l, j < specs.length) → ∀ a, putSome (L.toArray.extract 0 (specs.length + 1)) vals f l a = putSome L.toArray vals f l a := by
    intro vals f l
    induction l with
    | nil => intro _ a; rfl
    | cons j l ih =>
      intro hl a
      have ih' := ih (fun i hi => hl i (List.mem_cons_of_mem _ hi))
      simp only [putSome, List.foldl_cons] at ih' ⊢
      rw [dEq j (hl j List.mem_cons_self)]
      exact ih' _
  have hc' : genChk (L.toArray.extract 0 (specs.length + 1)) a0.tmps.size specs.length calls = true := by
    simp only [genChk, Bool.and_eq_true, List.all_eq_true, List.mem_range, decide_eq_true_eq, Bool.or_eq_true, beq_iff_eq] at hc ⊢
    obtain ⟨⟨⟨⟨⟨hdst, hgd⟩, hmn⟩, h1n⟩, hnd⟩, hcm⟩ := hc
    refine ⟨⟨⟨⟨⟨fun i hi j hj => ?_, fun i hi => ?_⟩, by omega⟩, by omega⟩, hnd⟩, hcm⟩
    · rw [hsz] at hi hj
      have := hdst i (by simp; omega) j (by simp; omega)
      have ei : dstOf (L.toArray.extract 0 (specs.length + 1)) i = dstOf L.toArray i := by unfold dstOf; rw [ext_get _ _ _ hi]
      have ej : dstOf (L.toArray.extract 0 (specs.length + 1)) j = dstOf L.toArray j := by unfold dstOf; rw [ext_get _ _ _ hj]
      rw [ei, ej]; exact this
    · rw [ext_get _ _ _ (by omega)]; exact hgd i hi
  have gx : ∀ (i : Nat) (b : Bool), i < specs.length + 1 → ((preArr L.toArray.size pre).extract 0 (specs.length + 1)).getD i b = (preArr L.toArray.size pre).getD i b := by
    intro i b hi
    have : i < (preArr L.toArray.size pre).size := by rw [ha1]; simp; omega
    simp only [Array.getD_eq_getD_getElem?, Array.getElem?_extract, Nat.zero_add, Nat.sub_zero]
    rw [if_pos (by omega)]
  have lp : ∀ i, i < specs.length → ((preArr L.toArray.size pre).getD i true = pre.contains i) := by
    intro i hi
    rcases Bool.eq_false_or_eq_true ((preArr L.toArray.size pre).getD i true) with h | h
    · rw [h]; exact ((ha6 i hi).resolve_left (by rw [h]; decide)).symm
    · rw [h]
      rcases Bool.eq_false_or_eq_true (pre.contains i) with h2 | h2
      · have := (ha3 i (by simpa using h2)).2
        rw [getD_two (by rw [ha1]; simp; omega) false true, h] at this
        cases this
      · exact h2.symm
  refine wp_region_held_drew (S := fun _ => True) hm trivial fun _ => ?_
  have hlenp : pv.length = pre.length := by rw [← hpv]; simp
  have hfz : L.toArray.size = (specs.length + 1 - pre.length + (L.length - (specs.length + 1))) + pv.length := by simp; omega
  have hf2 : preFree L.toArray (pv.map (·.1)) (Array.replicate L.toArray.size false) = true := by rw [hpv]; exact hfree
  have main := pre_taken (P := P) (Q := Q) hs pv (Array.replicate L.toArray.size false) (specs.length + 1 - pre.length + (L.length - (specs.length + 1))) a0 w.drew hf2 hyield
  rw [← hfz] at main
  refine main ?_
  refine held_of_any _ _ _ _ ?_
  rw [hpv, hput]
  refine tail_anyP (specs.length + 1) pre ht1 (preArr L.toArray.size pre) ha1 (fun k h1 h2 => ((ha2 k h2).resolve_left (by omega))) (fun i hi => ⟨by have := (ha3 i hi).1; omega, (ha3 i hi).2⟩) ?_ (L.length - (specs.length + 1)) (specs.length + 1) _ (by simp; omega) (Nat.le_refl _) _ _ ?_
  · intro i o ho hli e he hb
    exfalso
    have hlt := (Array.getElem?_eq_some_iff.1 ho).1
    have h := (ha4 i hlt).resolve_left (by rw [hli]; decide)
    rw [ho] at h
    simp only [Option.map_some, Option.getD_some] at h
    have h1 := Array.all_eq_true_iff_forall_mem.1 h e he
    rw [hb] at h1; cases h1
  have g := gen_pre (P := P) (ops := L.toArray.extract 0 (specs.length + 1)) (Q := tailQ P L.toArray Q (specs.length + 1)) (m := specs.length) (pre := pre) (W := W) (a0 := a0) (S := S) (k := k) (w0 := w.drew) (specs := specs) (calls := calls) (st := st) hsz hc' rfl (by rw [ext_get _ _ _ (by omega)]; simpa using hst) hsg hpc ?_ ?_ (specs.length + 1 - pre.length) ((preArr L.toArray.size pre).extract 0 (specs.length + 1)) (valsOf pv) w.drew (by rw [Array.size_extract, ha1]; simp; omega) ?_ ?_ ?_ (Keeps.refl _ _) ?_ ?_ ha7
  · rw [pEq _ _ _ (fun j hj => List.mem_range.1 hj)] at g
    have e0 : putSome L.toArray (valsOf pv) (fun i => ((preArr L.toArray.size pre).extract 0 (specs.length + 1)).getD i true) (List.range specs.length) a0 = putSome L.toArray (valsOf pv) (fun i => pre.contains i) (List.range specs.length) a0 := putSome_congr _ _ (fun j hj => by
      have hj := List.mem_range.1 hj
      exact ⟨by rw [gx j true (by omega), lp j hj], fun _ => rfl⟩)
    rw [e0] at g
    exact g
  · intro i o s hi ho hs a w' c hk hst2 hcc hfr hdp K hK
    have hoL : L[i]? = some o := by rw [ext_get _ _ _ (by omega)] at ho; simpa using ho
    have st2 := lateOps_at 0 _ _ hstep i o s (by rw [List.getElem?_take_of_lt hi]; exact hoL) hs
    rw [Nat.zero_add] at st2
    refine st2 a w' c hk hst2 hcc (fun t ht => hfr t ?_) (fun j t s' hj ht hs' => hdp j t s' hj (by rw [dEq j (List.getElem?_eq_some_iff.1 hs').1]; exact ht) hs') K hK
    rw [Array.extract_extract] 
    simpa [Nat.min_eq_left (show specs.length ≤ specs.length + 1 by omega)] using ht
  · intro vals w' hk hst2 hs
    rw [pEq vals _ _ (fun j hj => List.mem_range.1 hj)]
    have h := hA w' hk hst2
    subst hds
    have h2 := forVals_all (S := S) (w := w') (vals := vals) (ops := L.toArray) (K := fun a => wpList P L.toArray Q (st :: L.drop (specs.length + 1)) a w') specs 0 a0 (by rw [← List.range_eq_range']; exact h) (fun j s hj => by rw [Nat.zero_add]; exact hs j s hj)
    rw [← List.range_eq_range'] at h2
    have h3 := toTail_of (st :: L.drop (specs.length + 1)) (fun o ho => by
      rcases List.mem_cons.1 ho with rfl | ho
      · exact hsg
      · exact tailNone o ho) _ _ h2
    exact h3.imp (fun h => tailQ_wp h) (fun h => h)
  · rw [gx _ _ (Nat.lt_succ_self _)]
    exact (ha2 specs.length (by simp; omega)).resolve_left (by omega)
  · intro i o ho hli e he hb
    exfalso
    have hlt := (Array.getElem?_eq_some_iff.1 ho).1
    have hlt2 : i < specs.length + 1 := by omega
    rw [ext_get _ _ _ hlt2] at ho
    rw [gx i false hlt2] at hli
    have h := (ha4 i (Array.getElem?_eq_some_iff.1 ho).1).resolve_left (by rw [hli]; decide)
    rw [ho] at h
    simp only [Option.map_some, Option.getD_some] at h
    have h1 := Array.all_eq_true_iff_forall_mem.1 h e he
    rw [hb] at h1; cases h1
  · intro i hi
    rw [gx i false (by have := (ha3 i hi).1; omega)]
    exact (ha3 i hi).2
  · have : calls.countP (fun i => ((preArr L.toArray.size pre).extract 0 (specs.length + 1)).getD i true) = 0 := List.countP_eq_zero.2 (fun i hi => by
      have h5 := hc
      simp only [genChk, Bool.and_eq_true, List.all_eq_true, decide_eq_true_eq] at h5
      have h6 := h5.2 i hi
      rw [gx i true (by omega), ha5 i hi]
      decide)
    rw [this, Nat.mul_zero]
    exact h0
  · intro i s h hs2
    have hlt := (List.getElem?_eq_some_iff.1 hs2).1
    rw [gx i true (by omega), lp i hlt] at h
    have hmem : i ∈ pv.map (·.1) := by rw [hpv]; simpa using h
    have hfound : (pv.find? (fun x => x.1 == i)).isSome = true := by
      rw [List.find?_isSome]
      obtain ⟨x, hx, hxi⟩ := List.mem_map.1 hmem
      exact ⟨x, hx, by simp [hxi]⟩
    obtain ⟨x, hx⟩ := Option.isSome_iff_exists.1 hfound
    have hxm := List.mem_of_find?_eq_some hx
    have hxi : x.1 = i := by have := List.find?_some hx; simpa using this
    unfold valsOf
    rw [hx]
    exact hsp x hxm s (by rw [hxi]; exact hs2)
end
end Go.Proofs.YtppinnjdaoaddaaGreatDoor
