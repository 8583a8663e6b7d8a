/- What is proved here: lemmas and contracts for the statement, put together out of smaller texts (CarrChkR, LawSent). No condition beyond those stated. -/
import Derived.Test.YtppinnjdaoaddaaGreatDoorCsPkN
import Derived.Test.YtppinnjdaoaddaaGreatDoorCsPkF
import Derived.Test.YtppinnjdaoaddaaGreatDoorCsPkH
import Derived.Test.YtppinnjdaoaddaaGreatDoorCsPkI
import Derived.Test.YtppinnjdaoaddaaGreatDoorCsPkK
import Derived.Test.YtppinnjdaoaddaaGreatDoorCsPkL
import Derived.Test.YtppinnjdaoaddaaGreatDoorCsPkM
import Derived.Test.YtppinnjdaoaddaaGreatDoorCsPkC
import Derived.Deep.DeepCutAuto
set_option linter.unusedVariables false
set_option linter.unusedSimpArgs false
namespace Go.Proofs.YtppinnjdaoaddaaGreatDoor
open Go.RowKit

set_option maxRecDepth 100000 in
set_option maxHeartbeats 4000000 in
theorem carrFault_any (w : World) (a : Option Addr) (n cap : Nat) (l : List Carr) (hl : CarrRow w a n l) (hcap : n ≤ cap) : Calls Tryz.prog 13 #[.slice a n cap] w (ErrPost (carrsErr l) w) := by
  have hlen := hl.len
  have hfew := hl.few
  have HC := Lib.hid (carrs_cases l (by omega))
  have HR := Lib.hid hl
  clear hl
  generalize carrsErr l = R at HC ⊢
  rw [← hlen] at HC
  have HLEN := Lib.hid hlen
  clear hlen
  have hbig : ¬ (50 : Int) < n := by omega
  go_enter Tryz.func13, Tryz.ntmps13
  go_wp2_with fail
  clear hbig
  go_loopw [13] (fun it wr => ∃ k : Nat, k ≤ n ∧ it = .int .i64 k ∧ Hid (∀ j, j < k → carrErr l j = 0) ∧ Hid (Below w.heap.size w wr)) (fun it _ => n - (intOf it).toNat)
  case atStart => exact ⟨0, Nat.zero_le _, rfl, fun j hj => by omega, Below.refl _ _⟩
  case round =>
    obtain ⟨k, hk, rfl, HZ, HB⟩ := hrel
    by_cases hlt : k < n
    case neg =>
      obtain rfl : k = n := by omega
      obtain rfl : R = 0 := HC.out.2 HZ.out
      clear HC HZ
      as_aux_lemma =>
        go_wp2_with fail
        go_ret
        exact ⟨rfl, HB.out⟩
    obtain ⟨b, off, rfl, hb, hc⟩ := HR.out.at (by omega)
    have HCC := Lib.hid hc
    obtain ⟨q0, q1, q2⟩ := hc k hlt
    have c0 := (HB.out.cell (p := ⟨b, off + k * 3, none⟩) hb).trans q0
    have c1 := (HB.out.cell (p := ⟨b, off + k * 3 + 1, none⟩) hb).trans q1
    have c2 := (HB.out.cell (p := ⟨b, off + k * 3 + 2, none⟩) hb).trans q2
    have HFI := Lib.hid (HR.out.each k (by rw [← HLEN.out]; exact hlt))
    have HER : Hid (carrErr l k = if isKeyB (l.getD k noCarr).key = false then 5
      else if 0 < k ∧ Op.bytesLess (l.getD (k - 1) noCarr).key (l.getD k noCarr).key = false then 7
      else if inB (l.getD k noCarr).lines 1 100000 = false then 1
      else if 20 < (l.getD k noCarr).decks.length then 2
      else firstErr (deckAtErr (l.getD k noCarr).decks) (l.getD k noCarr).decks.length) := rfl
    have HSTOP := Lib.hid (HC.out.1 k hlt HZ.out)
    have HNX : Hid (carrErr l k = 0 → ∀ j, j < k + 1 → carrErr l j = 0) := fun h j hj => by
      rcases Nat.lt_succ_iff_lt_or_eq.1 hj with h9 | rfl
      · exact HZ.out j h9
      · exact h
    have HPV : Hid (0 < k → w.cell? ⟨b, off + (k - 1) * 3, none⟩ = some (.string ⟨(l.getD (k - 1) noCarr).key.toArray⟩)) := fun h => (HCC.out (k - 1) (by omega)).1
    clear q0 q1 q2 hc HZ HCC HC
    generalize carrErr l k = X at HER HSTOP HNX
    generalize l.getD k noCarr = c at c0 c1 c2 HFI HER
    generalize l.getD (k - 1) noCarr = q at HER HPV
    obtain ⟨ck, cl, da, dn, dc, dk⟩ := c
    obtain ⟨qk, ql, qa, qn, qc, qd⟩ := q
    have HDR : Hid (DeckRow w da dn dk) := HFI.out.row
    have hdl : dn = dk.length := HFI.out.row.len
    have hdf : dn ≤ 100 := HFI.out.row.few
    have hdc : dn ≤ dc := HFI.out.cap
    have hkl : ck.length ≤ 100 := HFI.out.key
    have hli : -2000000000000 ≤ cl ∧ cl ≤ 2000000000000 := HFI.out.b1
    have HDL := Lib.hid hdl
    simp only at c0 c1 c2 HER HPV
    rw [← hdl] at HER
    clear HFI hdl
    as_aux_lemma =>
      go_wp2_with fail
      refine (keyR_any ck _ (by omega)).mono ?_
      rintro e w3 ⟨rfl, hb3⟩
      obtain ⟨qc9, qf⟩ := bcell hb3
      have hz3 : wr.heap.size < w3.heap.size := by have := hb3.size; simp at this; omega
      have e0 : w3.cell? ⟨wr.heap.size, 0, none⟩ = some (.string ⟨ck.toArray⟩) := (qc9 _ 0 (by simp)).trans (by go_simp)
      have e1 : w3.cell? ⟨wr.heap.size, 1, none⟩ = some (.int .i64 cl) := (qc9 _ 1 (by simp)).trans (by go_simp)
      have e2 : w3.cell? ⟨wr.heap.size, 2, none⟩ = some (.slice da dn dc) := (qc9 _ 2 (by simp)).trans (by go_simp)
      have HB3 : Hid (Below w.heap.size w w3) := ext_trans (ext_alloc HB.out) hb3
      have hTw : w.heap.size ≤ wr.heap.size := HB.out.size
      generalize wr.heap.size = T at e0 e1 e2 hz3 hTw ⊢
      clear qc9 qf hb3 c0 c1 c2 HB
      generalize isKeyB ck = g1 at HER ⊢
      cases g1
      · obtain rfl : X = 5 := by rw [HER.out, if_pos rfl]
        obtain rfl : R = 5 := HSTOP.out (by decide)
        clear HER HSTOP HNX HPV
        skip
        as_aux_lemma =>
          go_wp2_with fail
          go_ret
          exact ⟨rfl, HB3.out⟩
      have HER1 : Hid (X = if 0 < k ∧ Op.bytesLess qk ck = false then 7
        else if inB cl 1 100000 = false then 1
        else if 20 < dn then 2
        else firstErr (deckAtErr dk) dn) := by show _ = _; rw [HER.out, if_neg (by decide)]
      clear HER
      by_cases hk0 : k = 0
      · subst hk0
        have HER2 : Hid (X = if inB cl 1 100000 = false then 1
          else if 20 < dn then 2
          else firstErr (deckAtErr dk) dn) := by show _ = _; rw [HER1.out, if_neg (fun h => by omega)]
        clear HER1 HPV
        skip
        as_aux_lemma =>
          go_wp2_with fail
          go_quiet (fail)
          go_wp2_with fail
          refine (in_same cl 1 100000 _).mono ?_
          rintro e w4 ⟨rfl, rfl⟩
          have HB3d : Hid (Below w.heap.size w (World.drewN w3 nq)) := ext_drewN HB3.out
          generalize inB cl 1 100000 = g2 at HER2 ⊢
          cases g2
          · obtain rfl : X = 1 := by rw [HER2.out, if_pos rfl]
            obtain rfl : R = 1 := HSTOP.out (by decide)
            clear HER2 HSTOP HNX
            skip
            as_aux_lemma =>
              go_wp2_with fail
              go_ret
              exact ⟨rfl, HB3d.out⟩
          by_cases hd20 : 20 < dn
          · obtain rfl : X = 2 := by rw [HER2.out, if_neg (by decide), if_pos hd20]
            obtain rfl : R = 2 := HSTOP.out (by decide)
            have hdI : (20 : Int) < dn := by omega
            clear HER2 HSTOP HNX
            skip
            as_aux_lemma =>
              go_wp2_with fail
              go_ret
              exact ⟨rfl, HB3d.out⟩
          have HER3 : Hid (X = firstErr (deckAtErr dk) dn) := by show _ = _; rw [HER2.out, if_neg (by decide), if_neg hd20]
          have hdI : ¬ (20 : Int) < dn := by omega
          clear HER2
          skip
          as_aux_lemma =>
            go_wp2_with fail
            clear hdI
            have HDR3 := Lib.hid (HDR.out.below HB3.out)
            obtain ⟨wo, rfl⟩ : ∃ wo : World, wo = w3 := ⟨_, rfl⟩
            go_loopw [50] (fun it wr => ∃ i : Nat, i ≤ dn ∧ it = .int .i64 i ∧ Hid (∀ j, j < i → deckAtErr dk j = 0) ∧ Hid (Below wo.heap.size wo wr)) (fun it _ => dn - (intOf it).toNat)
            case atStart => exact ⟨0, Nat.zero_le _, rfl, fun j hj => by omega, ext_drewN (Below.refl _ _)⟩
            case round =>
              obtain ⟨i, hi, rfl, HZ, HB⟩ := hrel
              by_cases hlt2 : i < dn
              case neg =>
                obtain rfl : i = dn := by omega
                have HZ2 := Lib.hid (HNX.out (by rw [HER3.out]; exact first_none HZ.out))
                have HBn := Lib.hid (ext_trans HB3.out HB.out)
                clear HER3 HNX HSTOP HZ
                skip
                as_aux_lemma =>
                  go_wp2_with fail
                  go_roundw
                  case rel => exact ⟨0 + 1, by omega, by go_num, HZ2.out, HBn.out⟩
                  case measure => simp [intOf]; omega
              obtain ⟨b2, off2, rfl, hb2, hc⟩ := HDR3.out.at (by omega)
              have HCC := Lib.hid hc
              obtain ⟨q0, q1, q2, q3, q4⟩ := hc i hlt2
              have c0 := (HB.out.cell (p := ⟨b2, off2 + i * 5, none⟩) hb2).trans q0
              have c1 := (HB.out.cell (p := ⟨b2, off2 + i * 5 + 1, none⟩) hb2).trans q1
              have c2 := (HB.out.cell (p := ⟨b2, off2 + i * 5 + 2, none⟩) hb2).trans q2
              have c3 := (HB.out.cell (p := ⟨b2, off2 + i * 5 + 3, none⟩) hb2).trans q3
              have c4 := (HB.out.cell (p := ⟨b2, off2 + i * 5 + 4, none⟩) hb2).trans q4
              have d2 := (HB.out.cell (p := ⟨T, 2, none⟩) hz3).trans e2
              have HFI : Hid (DeckFine wr (dk.getD i noDeck)) := (HDR3.out.each i (by rw [← HDL.out]; exact hlt2)).below HB.out
              have HEI : Hid (deckAtErr dk i = if deckErr (dk.getD i noDeck) ≠ 0 then deckErr (dk.getD i noDeck) else if 0 < i ∧ (dk.getD i noDeck).from_ ≤ (dk.getD (i - 1) noDeck).from_ then 7 else 0) := rfl
              have HST : Hid (deckAtErr dk i ≠ 0 → R = deckAtErr dk i) := fun h => by
                have h9 := first_some (f := deckAtErr dk) HZ.out hlt2 h
                rw [HSTOP.out (by rw [HER3.out, h9]; exact h), HER3.out, h9]
              have HNI : Hid (deckAtErr dk i = 0 → ∀ j, j < i + 1 → deckAtErr dk j = 0) := fun h j hj => by
                rcases Nat.lt_succ_iff_lt_or_eq.1 hj with h9 | rfl
                · exact HZ.out j h9
                · exact h
              have HPI : Hid (0 < i → wo.cell? ⟨b2, off2 + (i - 1) * 5, none⟩ = some (.int .i64 (dk.getD (i - 1) noDeck).from_)) := fun h => (HCC.out (i - 1) (by omega)).1
              clear q0 q1 q2 q3 q4 hc HCC HZ
              generalize deckAtErr dk i = Y at HEI HST HNI
              generalize dk.getD i noDeck = d at c0 c1 c2 c3 c4 HFI HEI
              generalize dk.getD (i - 1) noDeck = y at HEI HPI
              obtain ⟨df, ds, dl, dp, ra, rn, rc, rates⟩ := d
              obtain ⟨yf, ys, yl, yp, ya, yn, yc, yrates⟩ := y
              simp only at c0 c1 c2 c3 c4 HEI HPI
              have HDV : Hid (∀ W, DeckFine W ⟨df, ds, dl, dp, ra, rn, rc, rates⟩ → Calls Tryz.prog 57 #[.agg #[.int .i64 df, .int .i64 ds, .int .i64 dl, .int .i64 dp, .slice ra rn rc]] W (ErrPost (deckErr ⟨df, ds, dl, dp, ra, rn, rc, rates⟩) W)) := fun W h => deckFault_any W _ h
              generalize deckErr ⟨df, ds, dl, dp, ra, rn, rc, rates⟩ = E at HEI HDV
              as_aux_lemma =>
                go_wp2_with fail
                refine (HDV.out _ (HFI.out.below (ext_alloc (Below.refl _ _)))).mono ?_
                rintro e w5 ⟨rfl, hb5⟩
                obtain ⟨qc9, qf⟩ := bcell hb5
                have hz5 : wr.heap.size < w5.heap.size := by have := hb5.size; simp at this; omega
                have f0 : w5.cell? ⟨wr.heap.size, 0, none⟩ = some (.int .i64 df) := (qc9 _ 0 (by simp)).trans (by go_simp)
                have HB5 : Hid (Below wo.heap.size wo w5) := ext_trans (ext_alloc HB.out) hb5
                have HBn := Lib.hid (ext_trans HB3.out HB5.out)
                have d2 := (HB5.out.cell (p := ⟨T, 2, none⟩) hz3).trans e2
                generalize wr.heap.size = T2 at f0 hz5 ⊢
                clear qc9 qf hb5 c0 c1 c2 c3 c4 HDV HFI
                by_cases hE : E = 0
                case neg =>
                  have hEb : (E != 0) = true := by simp [hE]
                  obtain rfl : Y = E := by rw [HEI.out, if_pos hE]
                  obtain rfl : R = Y := HST.out hE
                  clear HEI HST HNI HPI HNX HSTOP HER3
                  skip
                  as_aux_lemma =>
                    go_wp2_with fail
                    go_ret
                    exact ⟨rfl, HBn.out⟩
                subst hE
                have HEI1 : Hid (Y = if 0 < i ∧ df ≤ yf then 7 else 0) := by show _ = _; rw [HEI.out, if_neg (by simp)]
                clear HEI
                by_cases hi0 : i = 0
                · subst hi0
                  have HZ2 := Lib.hid (HNI.out (by rw [HEI1.out, if_neg (fun h => by omega)]))
                  clear HEI1 HNI HST HPI
                  skip
                  as_aux_lemma =>
                    go_wp2_with fail
                    go_quiet (fail)
                    go_wp2_with fail
                    go_roundw
                    case rel => exact ⟨1, by omega, by go_num, HZ2.out, ext_drewN HB5.out⟩
                    case measure => simp [intOf]; omega
                obtain ⟨v, rfl⟩ : ∃ v, i = v + 1 := ⟨i - 1, by omega⟩
                have p0 := HPI.out (by omega)
                rw [Nat.add_sub_cancel] at p0
                have g0 := (HB5.out.cell (p := ⟨b2, off2 + v * 5, none⟩) hb2).trans p0
                have w1 : IntKind.i64.wrap (v : Int) = v := IntWalk.i64_in _ (by omega)
                have w2 : IntKind.i64.wrap ((v : Int) + 1 - 1) = v := by rw [Int.add_sub_cancel]; exact w1
                have w3' : (v : Int) < dn := by omega
                have w4 : (0 : Int) ≤ (v : Int) := by omega
                clear HPI p0 hi0
                by_cases hff : df ≤ yf
                · obtain rfl : Y = 7 := by rw [HEI1.out, if_pos ⟨by omega, hff⟩]
                  obtain rfl : R = 7 := HST.out (by decide)
                  have hfd : decide (df ≤ yf) = true := decide_eq_true hff
                  clear HEI1 HST HNI HNX HSTOP HER3
                  skip
                  as_aux_lemma =>
                    go_wp2_with fail
                    go_quiet (fail)
                    go_wp2_with fail
                    go_ret
                    exact ⟨rfl, ext_drewN HBn.out⟩
                have hfd : decide (df ≤ yf) = false := decide_eq_false hff
                have HZ2 := Lib.hid (HNI.out (by rw [HEI1.out, if_neg (fun h => hff h.2)]))
                clear HEI1 HNI HST
                skip
                as_aux_lemma =>
                  go_wp2_with fail
                  go_quiet (fail)
                  go_wp2_with fail
                  go_roundw
                  case rel => exact ⟨v + 1 + 1, by omega, by go_num, HZ2.out, ext_drewN HB5.out⟩
                  case measure => simp [intOf]; omega
      obtain ⟨j, rfl⟩ : ∃ j, k = j + 1 := ⟨k - 1, by omega⟩
      have p0 := HPV.out (by omega)
      rw [Nat.add_sub_cancel] at p0
      have g0 := (HB3.out.cell (p := ⟨b, off + j * 3, none⟩) hb).trans p0
      have w1 : IntKind.i64.wrap (j : Int) = j := IntWalk.i64_in _ (by omega)
      have w2 : IntKind.i64.wrap ((j : Int) + 1 - 1) = j := by rw [Int.add_sub_cancel]; exact w1
      have w3' : (j : Int) < n := by omega
      have w4 : (0 : Int) ≤ (j : Int) := by omega
      clear HPV p0 hk0
      cases hls : Op.bytesLess qk ck
      · obtain rfl : X = 7 := by rw [HER1.out, if_pos ⟨by omega, hls⟩]
        obtain rfl : R = 7 := HSTOP.out (by decide)
        clear HER1 HSTOP HNX
        by_cases hxe : ck = qk
        · subst hxe
          skip
          as_aux_lemma =>
            go_wp2_with fail
            go_quiet (fail)
            go_wp2_with fail
            go_ret
            exact ⟨rfl, ext_drewN HB3.out⟩
        · have hx1 : Op.bytesLess ck qk = true := less_total qk ck hls (Ne.symm hxe)
          skip
          as_aux_lemma =>
            go_wp2_with fail
            go_quiet (fail)
            go_wp2_with fail
            go_ret
            exact ⟨rfl, ext_drewN HB3.out⟩
      have HER2 : Hid (X = if inB cl 1 100000 = false then 1
        else if 20 < dn then 2
        else firstErr (deckAtErr dk) dn) := by show _ = _; rw [HER1.out, if_neg (fun h => by rw [hls] at h; cases h.2)]
      obtain ⟨hx1, hx2⟩ := less_asym hls
      have hx3 : (ck == qk) = false := beq_eq_false_iff_ne.2 (fun e => hx2 e.symm)
      clear HER1 hx2
      skip
      as_aux_lemma =>
        go_wp2_with fail
        go_quiet (fail)
        go_wp2_with fail
        refine (in_same cl 1 100000 _).mono ?_
        rintro e w4 ⟨rfl, rfl⟩
        have HB3d : Hid (Below w.heap.size w (World.drewN w3 nq)) := ext_drewN HB3.out
        generalize inB cl 1 100000 = g2 at HER2 ⊢
        cases g2
        · obtain rfl : X = 1 := by rw [HER2.out, if_pos rfl]
          obtain rfl : R = 1 := HSTOP.out (by decide)
          clear HER2 HSTOP HNX
          skip
          as_aux_lemma =>
            go_wp2_with fail
            go_ret
            exact ⟨rfl, HB3d.out⟩
        by_cases hd20 : 20 < dn
        · obtain rfl : X = 2 := by rw [HER2.out, if_neg (by decide), if_pos hd20]
          obtain rfl : R = 2 := HSTOP.out (by decide)
          have hdI : (20 : Int) < dn := by omega
          clear HER2 HSTOP HNX
          skip
          as_aux_lemma =>
            go_wp2_with fail
            go_ret
            exact ⟨rfl, HB3d.out⟩
        have HER3 : Hid (X = firstErr (deckAtErr dk) dn) := by show _ = _; rw [HER2.out, if_neg (by decide), if_neg hd20]
        have hdI : ¬ (20 : Int) < dn := by omega
        clear HER2
        skip
        as_aux_lemma =>
          go_wp2_with fail
          clear hdI
          have HDR3 := Lib.hid (HDR.out.below HB3.out)
          obtain ⟨wo, rfl⟩ : ∃ wo : World, wo = w3 := ⟨_, rfl⟩
          go_loopw [50] (fun it wr => ∃ i : Nat, i ≤ dn ∧ it = .int .i64 i ∧ Hid (∀ j, j < i → deckAtErr dk j = 0) ∧ Hid (Below wo.heap.size wo wr)) (fun it _ => dn - (intOf it).toNat)
          case atStart => exact ⟨0, Nat.zero_le _, rfl, fun j hj => by omega, ext_drewN (Below.refl _ _)⟩
          case round =>
            obtain ⟨i, hi, rfl, HZ, HB⟩ := hrel
            by_cases hlt2 : i < dn
            case neg =>
              obtain rfl : i = dn := by omega
              have HZ2 := Lib.hid (HNX.out (by rw [HER3.out]; exact first_none HZ.out))
              have HBn := Lib.hid (ext_trans HB3.out HB.out)
              clear HER3 HNX HSTOP HZ
              skip
              as_aux_lemma =>
                go_wp2_with fail
                go_roundw
                case rel => exact ⟨j + 1 + 1, by omega, by go_num, HZ2.out, HBn.out⟩
                case measure => simp [intOf]; omega
            obtain ⟨b2, off2, rfl, hb2, hc⟩ := HDR3.out.at (by omega)
            have HCC := Lib.hid hc
            obtain ⟨q0, q1, q2, q3, q4⟩ := hc i hlt2
            have c0 := (HB.out.cell (p := ⟨b2, off2 + i * 5, none⟩) hb2).trans q0
            have c1 := (HB.out.cell (p := ⟨b2, off2 + i * 5 + 1, none⟩) hb2).trans q1
            have c2 := (HB.out.cell (p := ⟨b2, off2 + i * 5 + 2, none⟩) hb2).trans q2
            have c3 := (HB.out.cell (p := ⟨b2, off2 + i * 5 + 3, none⟩) hb2).trans q3
            have c4 := (HB.out.cell (p := ⟨b2, off2 + i * 5 + 4, none⟩) hb2).trans q4
            have d2 := (HB.out.cell (p := ⟨T, 2, none⟩) hz3).trans e2
            have HFI : Hid (DeckFine wr (dk.getD i noDeck)) := (HDR3.out.each i (by rw [← HDL.out]; exact hlt2)).below HB.out
            have HEI : Hid (deckAtErr dk i = if deckErr (dk.getD i noDeck) ≠ 0 then deckErr (dk.getD i noDeck) else if 0 < i ∧ (dk.getD i noDeck).from_ ≤ (dk.getD (i - 1) noDeck).from_ then 7 else 0) := rfl
            have HST : Hid (deckAtErr dk i ≠ 0 → R = deckAtErr dk i) := fun h => by
              have h9 := first_some (f := deckAtErr dk) HZ.out hlt2 h
              rw [HSTOP.out (by rw [HER3.out, h9]; exact h), HER3.out, h9]
            have HNI : Hid (deckAtErr dk i = 0 → ∀ j, j < i + 1 → deckAtErr dk j = 0) := fun h j hj => by
              rcases Nat.lt_succ_iff_lt_or_eq.1 hj with h9 | rfl
              · exact HZ.out j h9
              · exact h
            have HPI : Hid (0 < i → wo.cell? ⟨b2, off2 + (i - 1) * 5, none⟩ = some (.int .i64 (dk.getD (i - 1) noDeck).from_)) := fun h => (HCC.out (i - 1) (by omega)).1
            clear q0 q1 q2 q3 q4 hc HCC HZ
            generalize deckAtErr dk i = Y at HEI HST HNI
            generalize dk.getD i noDeck = d at c0 c1 c2 c3 c4 HFI HEI
            generalize dk.getD (i - 1) noDeck = y at HEI HPI
            obtain ⟨df, ds, dl, dp, ra, rn, rc, rates⟩ := d
            obtain ⟨yf, ys, yl, yp, ya, yn, yc, yrates⟩ := y
            simp only at c0 c1 c2 c3 c4 HEI HPI
            have HDV : Hid (∀ W, DeckFine W ⟨df, ds, dl, dp, ra, rn, rc, rates⟩ → Calls Tryz.prog 57 #[.agg #[.int .i64 df, .int .i64 ds, .int .i64 dl, .int .i64 dp, .slice ra rn rc]] W (ErrPost (deckErr ⟨df, ds, dl, dp, ra, rn, rc, rates⟩) W)) := fun W h => deckFault_any W _ h
            generalize deckErr ⟨df, ds, dl, dp, ra, rn, rc, rates⟩ = E at HEI HDV
            as_aux_lemma =>
              go_wp2_with fail
              refine (HDV.out _ (HFI.out.below (ext_alloc (Below.refl _ _)))).mono ?_
              rintro e w5 ⟨rfl, hb5⟩
              obtain ⟨qc9, qf⟩ := bcell hb5
              have hz5 : wr.heap.size < w5.heap.size := by have := hb5.size; simp at this; omega
              have f0 : w5.cell? ⟨wr.heap.size, 0, none⟩ = some (.int .i64 df) := (qc9 _ 0 (by simp)).trans (by go_simp)
              have HB5 : Hid (Below wo.heap.size wo w5) := ext_trans (ext_alloc HB.out) hb5
              have HBn := Lib.hid (ext_trans HB3.out HB5.out)
              have d2 := (HB5.out.cell (p := ⟨T, 2, none⟩) hz3).trans e2
              generalize wr.heap.size = T2 at f0 hz5 ⊢
              clear qc9 qf hb5 c0 c1 c2 c3 c4 HDV HFI
              by_cases hE : E = 0
              case neg =>
                have hEb : (E != 0) = true := by simp [hE]
                obtain rfl : Y = E := by rw [HEI.out, if_pos hE]
                obtain rfl : R = Y := HST.out hE
                clear HEI HST HNI HPI HNX HSTOP HER3
                skip
                as_aux_lemma =>
                  go_wp2_with fail
                  go_ret
                  exact ⟨rfl, HBn.out⟩
              subst hE
              have HEI1 : Hid (Y = if 0 < i ∧ df ≤ yf then 7 else 0) := by show _ = _; rw [HEI.out, if_neg (by simp)]
              clear HEI
              by_cases hi0 : i = 0
              · subst hi0
                have HZ2 := Lib.hid (HNI.out (by rw [HEI1.out, if_neg (fun h => by omega)]))
                clear HEI1 HNI HST HPI
                skip
                as_aux_lemma =>
                  go_wp2_with fail
                  go_quiet (fail)
                  go_wp2_with fail
                  go_roundw
                  case rel => exact ⟨1, by omega, by go_num, HZ2.out, ext_drewN HB5.out⟩
                  case measure => simp [intOf]; omega
              obtain ⟨v, rfl⟩ : ∃ v, i = v + 1 := ⟨i - 1, by omega⟩
              have p0 := HPI.out (by omega)
              rw [Nat.add_sub_cancel] at p0
              have g0 := (HB5.out.cell (p := ⟨b2, off2 + v * 5, none⟩) hb2).trans p0
              have w1 : IntKind.i64.wrap (v : Int) = v := IntWalk.i64_in _ (by omega)
              have w2 : IntKind.i64.wrap ((v : Int) + 1 - 1) = v := by rw [Int.add_sub_cancel]; exact w1
              have w3' : (v : Int) < dn := by omega
              have w4 : (0 : Int) ≤ (v : Int) := by omega
              clear HPI p0 hi0
              by_cases hff : df ≤ yf
              · obtain rfl : Y = 7 := by rw [HEI1.out, if_pos ⟨by omega, hff⟩]
                obtain rfl : R = 7 := HST.out (by decide)
                have hfd : decide (df ≤ yf) = true := decide_eq_true hff
                clear HEI1 HST HNI HNX HSTOP HER3
                skip
                as_aux_lemma =>
                  go_wp2_with fail
                  go_quiet (fail)
                  go_wp2_with fail
                  go_ret
                  exact ⟨rfl, ext_drewN HBn.out⟩
              have hfd : decide (df ≤ yf) = false := decide_eq_false hff
              have HZ2 := Lib.hid (HNI.out (by rw [HEI1.out, if_neg (fun h => hff h.2)]))
              clear HEI1 HNI HST
              skip
              as_aux_lemma =>
                go_wp2_with fail
                go_quiet (fail)
                go_wp2_with fail
                go_roundw
                case rel => exact ⟨v + 1 + 1, by omega, by go_num, HZ2.out, ext_drewN HB5.out⟩
                case measure => simp [intOf]; omega
end Go.Proofs.YtppinnjdaoaddaaGreatDoor

set_option linter.unusedVariables false
set_option linter.unusedSimpArgs false
namespace Go.Proofs.YtppinnjdaoaddaaGreatDoor
open Go.RowKit

theorem bl_lst0 (e : Operand → Value) (he : ∀ v, e (.const v) = v) (o : Oper) (w : World) (i0 : Nat) (i1 : Nat) (z0 : Int) (z1 : Int) (ho : o.op = .buildSlice 114 2 #[(0, .tmp i0), (1, .tmp i1)]) (h0 : e (.tmp i0) = .int .i64 z0) (h1 : e (.tmp i1) = .int .i64 z1) :
   (execOp e o).run Tryz.prog w = .ok (.value (.slice (some ⟨w.heap.size, 0, none⟩) 2 2)) (w.alloc (.cells #[.int .i64 z0, .int .i64 z1] 38)) := by
  unfold execOp
  rw [ho]
  simp only [List.map_toArray, List.map_cons, List.map_nil, h0, h1]
  kernel_rfl
set_option maxRecDepth 100000 in
set_option maxHeartbeats 80000000 in
theorem sent_true (w : World) (a0 : Option Addr) (len cap : Nat) (zs : List Int) (hr : ArgRow w a0 len cap zs) (hT : TabW w.heap.size w) :
    Calls Tryz.prog 5 #[.slice a0 len cap] w fun e w' => e = .returned (.bool true) ∧ Below w.heap.size w w' := by
  have HS0 := Lib.hid (stream_start hr)
  have HT0 : Hid (TabW w.heap.size (w.alloc (.cells #[.slice a0 len cap, .int .i64 0] 25))) := tab_below hT (ext_alloc (Below.refl _ _)) (Nat.le_refl _)
  have HEND : Hid (∀ W, Keeps w.heap.size (w.alloc (.cells #[.slice a0 len cap, .int .i64 0] 25)) W → Below w.heap.size w W) := fun W h => law_end h
  have hsz : w.heap.size < (w.alloc (.cells #[.slice a0 len cap, .int .i64 0] 25)).heap.size := by simp
  clear hr hT
  go_enter Tryz.func5, Tryz.ntmps5
  go_wp2_with fail
  refine (carriers_any w.heap.size 0 _ HS0.out (by omega)).mono ?_
  rintro e w1 ⟨v1, l, rfl, ho, hl3, hif, hst, hk'⟩
  have hsz1 : w.heap.size < w1.heap.size := Nat.lt_of_lt_of_le hsz hk'.size
  obtain ⟨a, ca, rfl, hca, -⟩ := carr_row ho hif (Keeps.refl w.heap.size w1) hsz (by omega)
  have HRC : Hid (∀ W, Keeps w.heap.size w1 W → CarrRow W a l.length l) := fun W hW => by
    obtain ⟨a9, c9, e9, -, h9⟩ := carr_row ho hif hW hsz (by omega)
    injection e9 with e1 e2 e3
    subst e1
    exact h9
  have HK1 := Lib.hid hk'
  have HS1 := Lib.hid hst
  have HT1 : Hid (TabW w.heap.size w1) := tab_keeps HT0.out hk' hsz
  clear ho hif hst hk' HS0 HT0 hsz
  as_aux_lemma =>
    go_wp2_with fail
    refine (range_any w.heap.size 400 0 10 _ HS1.out (by omega) (by omega) (by omega) (by omega)).mono ?_
    rintro e w2 ⟨m0, rfl, m00, m01, hst, hk'⟩
    obtain ⟨m, rfl⟩ := Int.eq_ofNat_of_zero_le m00
    have HS2 := Lib.hid hst
    have HK2 := Lib.hid (HK1.out.trans hk')
    have HR2 : Hid (∀ W, Keeps w.heap.size w2 W → CarrRow W a l.length l) := fun W hW => HRC.out W (hk'.trans hW)
    have HT2 : Hid (TabW w.heap.size w2) := tab_keeps HT1.out hk' hsz1
    have hsz2 : w.heap.size < w2.heap.size := Nat.lt_of_lt_of_le hsz1 hk'.size
    clear hst hk' HS1 HK1 HRC HT1 m00 hsz1
    as_aux_lemma =>
      go_wp2_with fail
      refine (outside_any w.heap.size 401 m _ HS2.out (by omega) (by omega) HT2.out).mono ?_
      rintro e w3 ⟨v3, rs, rfl, ho, hrl, hri, hst, hk'⟩
      obtain ⟨b, cb, rfl, hcb, -⟩ := rcd_rows ho hri (Keeps.refl w.heap.size w3) hsz2 (by omega)
      have HRR : Hid (∀ W, Keeps w.heap.size w3 W → RcdRow W b rs.length rs) := fun W hW => by
        obtain ⟨a9, c9, e9, -, h9⟩ := rcd_rows ho hri hW hsz2 (by omega)
        injection e9 with e1 e2 e3
        subst e1
        exact h9
      have HS3 := Lib.hid hst
      have HK3 := Lib.hid (HK2.out.trans hk')
      have HR3 : Hid (∀ W, Keeps w.heap.size w3 W → CarrRow W a l.length l) := fun W hW => HR2.out W (hk'.trans hW)
      have hsz3 : w.heap.size < w3.heap.size := Nat.lt_of_lt_of_le hsz2 hk'.size
      clear hst hk' HS2 HK2 HR2 HT2 hsz2 ho hri
      as_aux_lemma =>
        go_wp2_with fail
        refine (faults_any w.heap.size (401 + 200) _ HS3.out (by omega) a l.length ca l HR3.out hl3).mono ?_
        rintro e w4 ⟨v4, f, rfl, ho, hfl, hfi, hst, hk'⟩
        obtain ⟨a1, c1, rfl, hc1, -⟩ := FltRow.of_own (own_keeps ho (Keeps.refl w.heap.size w4) hsz3) (by omega) hfi
        have HRW : Hid (∀ W, Keeps w.heap.size w4 W → CarrRow W a l.length l ∧ FltRow W a1 f.length f ∧ RcdRow W b rs.length rs) := fun W hW => by
          obtain ⟨a9, c9, e9, -, h9⟩ := FltRow.of_own (own_keeps ho hW hsz3) (by omega) hfi
          injection e9 with e1 e2 e3
          subst e1
          exact ⟨HR3.out W (hk'.trans hW), h9, HRR.out W (hk'.trans hW)⟩
        have hk4 := HK3.out.trans hk'
        have HFIN : Hid (∀ W, Below w4.heap.size w4 W → Below w.heap.size w W) := fun W hW => HEND.out W (hk4.trans (Keeps.of_below hW))
        have hsz4 : w.heap.size < w4.heap.size := Nat.lt_of_lt_of_le hsz3 hk'.size
        clear hst hk' HS3 HK3 HR3 HRR HEND ho hfi hsz3 hk4
        have hm20 : rs.length ≤ 20 := by omega
        have HCF := Lib.hid (fun W (h : Below w4.heap.size w4 W) => carrFault_any W a l.length ca l (HRW.out W (Keeps.of_below h)).1 hca)
        have HFF := Lib.hid (fun W (h : Below w4.heap.size w4 W) => fltFault_any W a l.length ca l (HRW.out W (Keeps.of_below h)).1 hca a1 f.length c1 f (HRW.out W (Keeps.of_below h)).2.1 hc1)
        have HCK := Lib.hid (fun W (h : Below w4.heap.size w4 W) => checkFlt_any W a l.length ca l (HRW.out W (Keeps.of_below h)).1 hca a1 f.length c1 f (HRW.out W (Keeps.of_below h)).2.1 hc1)
        have HSX := Lib.hid (fun W (h : Below w4.heap.size w4 W) => sendX_any W a l.length ca l (HRW.out W (Keeps.of_below h)).1 hca hl3 a1 f.length c1 f (HRW.out W (Keeps.of_below h)).2.1 hc1 b rs.length cb rs (HRW.out W (Keeps.of_below h)).2.2 hcb hm20)
        have HSV := Lib.hid (fun W (h : Below w4.heap.size w4 W) => savedX_any W a l.length ca l (HRW.out W (Keeps.of_below h)).1 hca hl3 a1 f.length c1 f (HRW.out W (Keeps.of_below h)).2.1 hc1 b rs.length cb rs (HRW.out W (Keeps.of_below h)).2.2 hcb hm20)
        have HSF := Lib.hid (fun W (h : Below w4.heap.size w4 W) => sndFault_any W b rs.length cb rs (HRW.out W (Keeps.of_below h)).2.2 hcb)
        have HSA : Hid (chkSE l f rs = 0 → ∀ W, Below w4.heap.size w4 W → Calls Tryz.prog 47 #[.slice a l.length ca, .slice a1 f.length c1, .slice b rs.length cb] W (SendPost (refAll l f rs rs.length).out (refAll l f rs rs.length).saved W)) := fun h0 W h => by
          obtain ⟨h1, h2⟩ := chkSE_zero (by omega) h0
          exact sendAll_any W a l.length ca l (HRW.out W (Keeps.of_below h)).1 hca hl3 h1 a1 f.length c1 f (HRW.out W (Keeps.of_below h)).2.1 b rs.length cb rs (HRW.out W (Keeps.of_below h)).2.2 hm20 h2
        have HSM : Hid (chkSE l f rs = 0 → (sendTo l f rs rs.length).out = (refAll l f rs rs.length).out ∧ (sendTo l f rs rs.length).saved = (refAll l f rs rs.length).saved ∧ (sendTo l f rs rs.length).out.length ≤ 100000) := fun h0 => by
          obtain ⟨h1, h2⟩ := chkSE_zero (by omega) h0
          obtain ⟨q1, q2⟩ := sendTo_same l f rs (fun i hi hil => (snd_zero (h2 i hil)).2.2.2.2 hi) (fun i hi => offL_ne hl3 h1 _) rs.length (Nat.le_refl _)
          have q3 := (sendTo_bound (f := f) (fun i hi => offL_price hl3 (good_row (HRW.out w4 (Keeps.refl _ _)).1 h1) (snd_zero (h2 i hi)).2.2.2.1) rs.length (Nat.le_refl _)).1
          exact ⟨q1, q2, by omega⟩
        have HE1 : Hid (chkFE l f = if carrsErr l ≠ 0 then carrsErr l else fltsErr l f) := rfl
        have HE2 : Hid (firstE (chkFE l f) (sndsErr rs) = chkSE l f rs) := rfl
        generalize (sendTo l f rs rs.length).out = X at HSX HSM
        generalize (sendTo l f rs rs.length).saved = N at HSV HSM
        generalize (refAll l f rs rs.length).out = Y at HSA HSM
        generalize (refAll l f rs rs.length).saved = M at HSA HSM
        generalize chkSE l f rs = E2 at HSX HSV HSA HSM HE2
        generalize chkFE l f = E1 at HCK HE1 HE2
        generalize fltsErr l f = G at HFF HE1
        generalize sndsErr rs = SE at HSF HE2
        generalize carrsErr l = F at HCF HE1
        generalize hnl : l.length = n at HCF HFF HCK HSX HSV HSA ⊢
        generalize hnf : f.length = nf at HFF HCK HSX HSV HSA ⊢
        generalize hnr : rs.length = nr at HSX HSV HSF HSA ⊢
        clear HRW hm20 hfl hrl hl3 m01 hnl hnf hnr hca hc1 hcb
        have HBd : Hid (Below w4.heap.size w4 w4) := Below.refl _ _
        as_aux_lemma =>
          go_wp2_with fail
          refine (HCF.out _ HBd.out).mono ?_
          rintro e wa ⟨rfl, hb⟩
          have HBa := Lib.hid (ext_trans HBd.out hb)
          clear hb HCF HBd
          as_aux_lemma =>
            go_upto_if 29 with (fail)
            go_cut [7] (fun v wx => v = .int .i64 E1 ∧ Hid (Below w4.heap.size w4 wx))
            case first =>
              by_cases hF : F = 0
              · subst hF
                have hE1 := Lib.hid (show E1 = G by rw [HE1.out, if_neg (by simp)])
                as_aux_lemma =>
                  go_wp2_with fail
                  refine (HFF.out _ HBa.out).mono ?_
                  rintro e wb ⟨rfl, hb⟩
                  have HBb := Lib.hid (ext_trans HBa.out hb)
                  clear hb
                  as_aux_lemma =>
                    go_wp2_with fail
                    go_meet
                    exact ⟨by rw [hE1.out], HBb.out⟩
              · have hE1 := Lib.hid (show E1 = F by rw [HE1.out, if_pos hF])
                have hFb : (F == 0) = false := beq_eq_false_iff_ne.2 hF
                as_aux_lemma =>
                  go_wp2_with fail
                  go_meet
                  exact ⟨by rw [hE1.out], HBa.out⟩
            case rest =>
              obtain ⟨rfl, HBc⟩ := hcut
              obtain ⟨wc', rfl⟩ : ∃ x : World, x = wc := ⟨_, rfl⟩
              clear HBa HFF HE1
              as_aux_lemma =>
                go_wp2_with fail
                refine (HCK.out _ HBc.out).mono ?_
                rintro e we ⟨rfl, hb⟩
                have HBe := Lib.hid (ext_trans HBc.out hb)
                clear hb HCK HBc
                by_cases hE : E2 = 0
                case neg =>
                  have HSX2 : Hid (∀ W, Below w4.heap.size w4 W → Calls Tryz.prog 44 #[.slice a n ca, .slice a1 nf c1, .slice b nr cb] W fun e w' => (∃ xa xc, e = .returned (.tuple #[.slice xa 0 xc, .int .i64 E2])) ∧ Below W.heap.size W w') := fun W h => (HSX.out W h).mono fun e w' h9 => by
                    obtain ⟨v, he, ho, hb⟩ := h9
                    rw [if_neg hE] at ho
                    obtain ⟨xa, xc, rfl⟩ := own_shape ho
                    exact ⟨⟨xa, xc, he⟩, hb⟩
                  have HSV2 : Hid (∀ W, Below w4.heap.size w4 W → Calls Tryz.prog 45 #[.slice a n ca, .slice a1 nf c1, .slice b nr cb] W fun e w' => e = .returned (.tuple #[.int .i64 0, .int .i64 E2]) ∧ Below W.heap.size W w') := fun W h => (HSV.out W h).mono fun e w' h9 => by
                    obtain ⟨he, hb⟩ := h9
                    rw [if_neg hE] at he
                    exact ⟨he, hb⟩
                  have hEb : (E2 != 0) = true := by simp [hE]
                  have hEb2 : (E2 == 0) = false := by simp [hE]
                  clear HSX HSV HSA HSM
                  as_aux_lemma =>
                    go_wp2_with fail
                    refine (HSX2.out _ HBe.out).mono ?_
                    rintro e wf ⟨⟨xa, xc, rfl⟩, hb⟩
                    have HBf := Lib.hid (ext_trans HBe.out hb)
                    clear hb HBe HSX2
                    as_aux_lemma =>
                      go_wp2_with fail
                      refine (HSV2.out _ HBf.out).mono ?_
                      rintro e wg ⟨rfl, hb⟩
                      have HBg := Lib.hid (ext_trans HBf.out hb)
                      clear hb HBf HSV2
                      as_aux_lemma =>
                        go_wp2_with fail
                        refine (HSF.out _ HBg.out).mono ?_
                        rintro e wh ⟨rfl, hb⟩
                        have HBh := Lib.hid (ext_trans HBg.out hb)
                        clear hb HBg HSF
                        as_aux_lemma =>
                          go_wp2_with ((refine wpList_val rfl (bl_lst0 _ (fun _ => rfl) _ _ 52 54 E1 SE rfl rfl rfl) ?_))
                          refine (or_any E1 SE wh.heap.size _ (by simp) (by go_simp) (by go_simp)).mono ?_
                          rintro e w' ⟨rfl, rfl⟩
                          rw [HE2.out]
                          have hA : Below wh.heap.size wh (World.alloc wh (.cells #[.int .i64 E1, .int .i64 SE] 38)) := ext_alloc (Below.refl _ _)
                          have HBi := Lib.hid (ext_trans HBh.out hA)

                          clear hA HE2
                          generalize World.alloc wh _ = wi at HBi ⊢
                          clear HBh
                          as_aux_lemma =>
                            go_wp2_with fail
                            refine (carried_any _).mono ?_
                            rintro e wj ⟨rfl, hb⟩
                            have HR := Lib.hid (HFIN.out _ (ext_trans HBi.out hb))
                            clear hb HBi HFIN
                            as_aux_lemma =>
                              go_wp2_with fail
                              go_ret
                              exact ⟨rfl, HR.out⟩
                subst hE
                obtain ⟨hXY, hNM, hXL⟩ := HSM.out rfl
                subst hXY
                subst hNM
                have HSX2 : Hid (∀ W, Below w4.heap.size w4 W → Calls Tryz.prog 44 #[.slice a n ca, .slice a1 nf c1, .slice b nr cb] W fun e w' => ∃ v, e = .returned (.tuple #[v, .int .i64 0]) ∧ w'.ownsRow W.heap.size 102 4 v X.length ((X.map Snt.cells).flatten) ∧ Below W.heap.size W w') := fun W h => (HSX.out W h).mono fun e w' h9 => by
                  obtain ⟨v, he, ho, hb⟩ := h9
                  rw [if_pos rfl] at ho
                  exact ⟨v, he, ho, hb⟩
                have HSV2 : Hid (∀ W, Below w4.heap.size w4 W → Calls Tryz.prog 45 #[.slice a n ca, .slice a1 nf c1, .slice b nr cb] W fun e w' => e = .returned (.tuple #[.int .i64 N, .int .i64 0]) ∧ Below W.heap.size W w') := fun W h => (HSV.out W h).mono fun e w' h9 => by
                  obtain ⟨he, hb⟩ := h9
                  rw [if_pos rfl] at he
                  exact ⟨he, hb⟩
                have HSB := Lib.hid (HSA.out rfl)
                clear HSX HSV HSA HSM
                as_aux_lemma =>
                  go_wp2_with fail
                  refine (HSX2.out _ HBe.out).mono ?_
                  rintro e wf ⟨v8, rfl, hx, hb⟩
                  have HBf := Lib.hid (ext_trans HBe.out hb)
                  have HXf := Lib.hid hx
                  obtain ⟨xa, xc, rfl⟩ := own_shape hx
                  clear hx
                  clear hb HBe HSX2
                  as_aux_lemma =>
                    go_wp2_with fail
                    refine (HSV2.out _ HBf.out).mono ?_
                    rintro e wg ⟨rfl, hb⟩
                    have HBg := Lib.hid (ext_trans HBf.out hb)
                    have HXg := Lib.hid (own_keep HXf.out hb)
                    clear hb HBf HSV2 HXf
                    as_aux_lemma =>
                      go_wp2_with fail
                      refine (HSF.out _ HBg.out).mono ?_
                      rintro e wh ⟨rfl, hb⟩
                      have HBh := Lib.hid (ext_trans HBg.out hb)
                      have HXh := Lib.hid (own_keep HXg.out hb)
                      clear hb HBg HSF HXg
                      as_aux_lemma =>
                        go_wp2_with ((refine wpList_val rfl (bl_lst0 _ (fun _ => rfl) _ _ 52 54 E1 SE rfl rfl rfl) ?_))
                        refine (or_any E1 SE wh.heap.size _ (by simp) (by go_simp) (by go_simp)).mono ?_
                        rintro e w' ⟨rfl, rfl⟩
                        rw [HE2.out]
                        have hA : Below wh.heap.size wh (World.alloc wh (.cells #[.int .i64 E1, .int .i64 SE] 38)) := ext_alloc (Below.refl _ _)
                        have HBi := Lib.hid (ext_trans HBh.out hA)
                        have HXi := Lib.hid (own_keep HXh.out hA)
                        clear hA HE2
                        generalize World.alloc wh _ = wi at HBi HXi ⊢
                        clear HBh HXh
                        as_aux_lemma =>
                          go_wp2_with fail
                          refine (HSB.out _ HBi.out).mono ?_
                          rintro e wj ⟨v9, rfl, hy, hb⟩
                          have HBj := Lib.hid (ext_trans HBi.out hb)
                          have HXk := Lib.hid (own_keep HXi.out hb)
                          have HYk := Lib.hid hy
                          clear hy hb HSB HBi HXi
                          have HEQ := Lib.hid (equal_sent HXk.out HYk.out rfl hXL)
                          obtain ⟨ya, yc, rfl⟩ := own_shape HYk.out
                          clear HXk HYk
                          as_aux_lemma =>
                            go_wp2_with fail
                            refine HEQ.out.mono ?_
                            rintro e wk ⟨rfl, hb⟩
                            have HBk := Lib.hid (ext_trans HBj.out hb)
                            clear hb HBj HEQ
                            as_aux_lemma =>
                              go_wp2_with fail
                              refine (carried_any _).mono ?_
                              rintro e wl ⟨rfl, hb⟩
                              have HR := Lib.hid (HFIN.out _ (ext_trans HBk.out hb))
                              clear hb HBk HFIN
                              as_aux_lemma =>
                                go_wp2_with fail
                                go_ret
                                exact ⟨rfl, HR.out⟩
end Go.Proofs.YtppinnjdaoaddaaGreatDoor
