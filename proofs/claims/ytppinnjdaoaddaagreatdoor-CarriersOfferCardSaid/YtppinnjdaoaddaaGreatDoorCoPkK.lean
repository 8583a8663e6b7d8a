/- What is proved here: lemmas and contracts for the statement, put together out of smaller texts (CarrChkR, OrN, WhenL, LawOffer). No condition beyond those stated. -/
import Derived.Test.YtppinnjdaoaddaaGreatDoorCoPkJ
import Derived.Test.YtppinnjdaoaddaaGreatDoorCoPkC
import Derived.Test.YtppinnjdaoaddaaGreatDoorCoPkA
import Derived.Test.YtppinnjdaoaddaaGreatDoorCoPkE
import Derived.Test.YtppinnjdaoaddaaGreatDoorCoPkF
import Derived.Test.YtppinnjdaoaddaaGreatDoorCoPkG
import Derived.Test.YtppinnjdaoaddaaGreatDoorCoPkH
import Derived.Test.YtppinnjdaoaddaaGreatDoorCoPkI
import Derived.Deep.DeepCutAuto
set_option linter.unusedVariables false
set_option linter.unusedSimpArgs false
namespace Go.Proofs.YtppinnjdaoaddaaGreatDoor
open Go.RowKit

set_option maxRecDepth 100000 in
set_option maxHeartbeats 4000000 in
theorem carrFault_any (w : World) (a : Option Addr) (n cap : Nat) (l : List Carr) (hl : CarrRow w a n l) (hcap : n ≤ cap) : Calls Tryz.prog 13 #[.slice a n cap] w (ErrPost (carrsErr l) w) := by
  have hlen := hl.len
  have hfew := hl.few
  have HC := Lib.hid (carrs_cases l (by omega))
  have HR := Lib.hid hl
  clear hl
  generalize carrsErr l = R at HC ⊢
  rw [← hlen] at HC
  have HLEN := Lib.hid hlen
  clear hlen
  have hbig : ¬ (50 : Int) < n := by omega
  go_enter Tryz.func13, Tryz.ntmps13
  go_wp2_with fail
  clear hbig
  go_loopw [13] (fun it wr => ∃ k : Nat, k ≤ n ∧ it = .int .i64 k ∧ Hid (∀ j, j < k → carrErr l j = 0) ∧ Hid (Below w.heap.size w wr)) (fun it _ => n - (intOf it).toNat)
  case atStart => exact ⟨0, Nat.zero_le _, rfl, fun j hj => by omega, Below.refl _ _⟩
  case round =>
    obtain ⟨k, hk, rfl, HZ, HB⟩ := hrel
    by_cases hlt : k < n
    case neg =>
      obtain rfl : k = n := by omega
      obtain rfl : R = 0 := HC.out.2 HZ.out
      clear HC HZ
      as_aux_lemma =>
        go_wp2_with fail
        go_ret
        exact ⟨rfl, HB.out⟩
    obtain ⟨b, off, rfl, hb, hc⟩ := HR.out.at (by omega)
    have HCC := Lib.hid hc
    obtain ⟨q0, q1, q2⟩ := hc k hlt
    have c0 := (HB.out.cell (p := ⟨b, off + k * 3, none⟩) hb).trans q0
    have c1 := (HB.out.cell (p := ⟨b, off + k * 3 + 1, none⟩) hb).trans q1
    have c2 := (HB.out.cell (p := ⟨b, off + k * 3 + 2, none⟩) hb).trans q2
    have HFI := Lib.hid (HR.out.each k (by rw [← HLEN.out]; exact hlt))
    have HER : Hid (carrErr l k = if isKeyB (l.getD k noCarr).key = false then 5
      else if 0 < k ∧ Op.bytesLess (l.getD (k - 1) noCarr).key (l.getD k noCarr).key = false then 7
      else if inB (l.getD k noCarr).lines 1 100000 = false then 1
      else if 20 < (l.getD k noCarr).decks.length then 2
      else firstErr (deckAtErr (l.getD k noCarr).decks) (l.getD k noCarr).decks.length) := rfl
    have HSTOP := Lib.hid (HC.out.1 k hlt HZ.out)
    have HNX : Hid (carrErr l k = 0 → ∀ j, j < k + 1 → carrErr l j = 0) := fun h j hj => by
      rcases Nat.lt_succ_iff_lt_or_eq.1 hj with h9 | rfl
      · exact HZ.out j h9
      · exact h
    have HPV : Hid (0 < k → w.cell? ⟨b, off + (k - 1) * 3, none⟩ = some (.string ⟨(l.getD (k - 1) noCarr).key.toArray⟩)) := fun h => (HCC.out (k - 1) (by omega)).1
    clear q0 q1 q2 hc HZ HCC HC
    generalize carrErr l k = X at HER HSTOP HNX
    generalize l.getD k noCarr = c at c0 c1 c2 HFI HER
    generalize l.getD (k - 1) noCarr = q at HER HPV
    obtain ⟨ck, cl, da, dn, dc, dk⟩ := c
    obtain ⟨qk, ql, qa, qn, qc, qd⟩ := q
    have HDR : Hid (DeckRow w da dn dk) := HFI.out.row
    have hdl : dn = dk.length := HFI.out.row.len
    have hdf : dn ≤ 100 := HFI.out.row.few
    have hdc : dn ≤ dc := HFI.out.cap
    have hkl : ck.length ≤ 100 := HFI.out.key
    have hli : -2000000000000 ≤ cl ∧ cl ≤ 2000000000000 := HFI.out.b1
    have HDL := Lib.hid hdl
    simp only at c0 c1 c2 HER HPV
    rw [← hdl] at HER
    clear HFI hdl
    as_aux_lemma =>
      go_wp2_with fail
      refine (keyR_any ck _ (by omega)).mono ?_
      rintro e w3 ⟨rfl, hb3⟩
      obtain ⟨qc9, qf⟩ := bcell hb3
      have hz3 : wr.heap.size < w3.heap.size := by have := hb3.size; simp at this; omega
      have e0 : w3.cell? ⟨wr.heap.size, 0, none⟩ = some (.string ⟨ck.toArray⟩) := (qc9 _ 0 (by simp)).trans (by go_simp)
      have e1 : w3.cell? ⟨wr.heap.size, 1, none⟩ = some (.int .i64 cl) := (qc9 _ 1 (by simp)).trans (by go_simp)
      have e2 : w3.cell? ⟨wr.heap.size, 2, none⟩ = some (.slice da dn dc) := (qc9 _ 2 (by simp)).trans (by go_simp)
      have HB3 : Hid (Below w.heap.size w w3) := ext_trans (ext_alloc HB.out) hb3
      have hTw : w.heap.size ≤ wr.heap.size := HB.out.size
      generalize wr.heap.size = T at e0 e1 e2 hz3 hTw ⊢
      clear qc9 qf hb3 c0 c1 c2 HB
      generalize isKeyB ck = g1 at HER ⊢
      cases g1
      · obtain rfl : X = 5 := by rw [HER.out, if_pos rfl]
        obtain rfl : R = 5 := HSTOP.out (by decide)
        clear HER HSTOP HNX HPV
        skip
        as_aux_lemma =>
          go_wp2_with fail
          go_ret
          exact ⟨rfl, HB3.out⟩
      have HER1 : Hid (X = if 0 < k ∧ Op.bytesLess qk ck = false then 7
        else if inB cl 1 100000 = false then 1
        else if 20 < dn then 2
        else firstErr (deckAtErr dk) dn) := by show _ = _; rw [HER.out, if_neg (by decide)]
      clear HER
      by_cases hk0 : k = 0
      · subst hk0
        have HER2 : Hid (X = if inB cl 1 100000 = false then 1
          else if 20 < dn then 2
          else firstErr (deckAtErr dk) dn) := by show _ = _; rw [HER1.out, if_neg (fun h => by omega)]
        clear HER1 HPV
        skip
        as_aux_lemma =>
          go_wp2_with fail
          go_quiet (fail)
          go_wp2_with fail
          refine (in_same cl 1 100000 _).mono ?_
          rintro e w4 ⟨rfl, rfl⟩
          have HB3d : Hid (Below w.heap.size w (World.drewN w3 nq)) := ext_drewN HB3.out
          generalize inB cl 1 100000 = g2 at HER2 ⊢
          cases g2
          · obtain rfl : X = 1 := by rw [HER2.out, if_pos rfl]
            obtain rfl : R = 1 := HSTOP.out (by decide)
            clear HER2 HSTOP HNX
            skip
            as_aux_lemma =>
              go_wp2_with fail
              go_ret
              exact ⟨rfl, HB3d.out⟩
          by_cases hd20 : 20 < dn
          · obtain rfl : X = 2 := by rw [HER2.out, if_neg (by decide), if_pos hd20]
            obtain rfl : R = 2 := HSTOP.out (by decide)
            have hdI : (20 : Int) < dn := by omega
            clear HER2 HSTOP HNX
            skip
            as_aux_lemma =>
              go_wp2_with fail
              go_ret
              exact ⟨rfl, HB3d.out⟩
          have HER3 : Hid (X = firstErr (deckAtErr dk) dn) := by show _ = _; rw [HER2.out, if_neg (by decide), if_neg hd20]
          have hdI : ¬ (20 : Int) < dn := by omega
          clear HER2
          skip
          as_aux_lemma =>
            go_wp2_with fail
            clear hdI
            have HDR3 := Lib.hid (HDR.out.below HB3.out)
            obtain ⟨wo, rfl⟩ : ∃ wo : World, wo = w3 := ⟨_, rfl⟩
            go_loopw [50] (fun it wr => ∃ i : Nat, i ≤ dn ∧ it = .int .i64 i ∧ Hid (∀ j, j < i → deckAtErr dk j = 0) ∧ Hid (Below wo.heap.size wo wr)) (fun it _ => dn - (intOf it).toNat)
            case atStart => exact ⟨0, Nat.zero_le _, rfl, fun j hj => by omega, ext_drewN (Below.refl _ _)⟩
            case round =>
              obtain ⟨i, hi, rfl, HZ, HB⟩ := hrel
              by_cases hlt2 : i < dn
              case neg =>
                obtain rfl : i = dn := by omega
                have HZ2 := Lib.hid (HNX.out (by rw [HER3.out]; exact first_none HZ.out))
                have HBn := Lib.hid (ext_trans HB3.out HB.out)
                clear HER3 HNX HSTOP HZ
                skip
                as_aux_lemma =>
                  go_wp2_with fail
                  go_roundw
                  case rel => exact ⟨0 + 1, by omega, by go_num, HZ2.out, HBn.out⟩
                  case measure => simp [intOf]; omega
              obtain ⟨b2, off2, rfl, hb2, hc⟩ := HDR3.out.at (by omega)
              have HCC := Lib.hid hc
              obtain ⟨q0, q1, q2, q3, q4⟩ := hc i hlt2
              have c0 := (HB.out.cell (p := ⟨b2, off2 + i * 5, none⟩) hb2).trans q0
              have c1 := (HB.out.cell (p := ⟨b2, off2 + i * 5 + 1, none⟩) hb2).trans q1
              have c2 := (HB.out.cell (p := ⟨b2, off2 + i * 5 + 2, none⟩) hb2).trans q2
              have c3 := (HB.out.cell (p := ⟨b2, off2 + i * 5 + 3, none⟩) hb2).trans q3
              have c4 := (HB.out.cell (p := ⟨b2, off2 + i * 5 + 4, none⟩) hb2).trans q4
              have d2 := (HB.out.cell (p := ⟨T, 2, none⟩) hz3).trans e2
              have HFI : Hid (DeckFine wr (dk.getD i noDeck)) := (HDR3.out.each i (by rw [← HDL.out]; exact hlt2)).below HB.out
              have HEI : Hid (deckAtErr dk i = if deckErr (dk.getD i noDeck) ≠ 0 then deckErr (dk.getD i noDeck) else if 0 < i ∧ (dk.getD i noDeck).from_ ≤ (dk.getD (i - 1) noDeck).from_ then 7 else 0) := rfl
              have HST : Hid (deckAtErr dk i ≠ 0 → R = deckAtErr dk i) := fun h => by
                have h9 := first_some (f := deckAtErr dk) HZ.out hlt2 h
                rw [HSTOP.out (by rw [HER3.out, h9]; exact h), HER3.out, h9]
              have HNI : Hid (deckAtErr dk i = 0 → ∀ j, j < i + 1 → deckAtErr dk j = 0) := fun h j hj => by
                rcases Nat.lt_succ_iff_lt_or_eq.1 hj with h9 | rfl
                · exact HZ.out j h9
                · exact h
              have HPI : Hid (0 < i → wo.cell? ⟨b2, off2 + (i - 1) * 5, none⟩ = some (.int .i64 (dk.getD (i - 1) noDeck).from_)) := fun h => (HCC.out (i - 1) (by omega)).1
              clear q0 q1 q2 q3 q4 hc HCC HZ
              generalize deckAtErr dk i = Y at HEI HST HNI
              generalize dk.getD i noDeck = d at c0 c1 c2 c3 c4 HFI HEI
              generalize dk.getD (i - 1) noDeck = y at HEI HPI
              obtain ⟨df, ds, dl, dp, ra, rn, rc, rates⟩ := d
              obtain ⟨yf, ys, yl, yp, ya, yn, yc, yrates⟩ := y
              simp only at c0 c1 c2 c3 c4 HEI HPI
              have HDV : Hid (∀ W, DeckFine W ⟨df, ds, dl, dp, ra, rn, rc, rates⟩ → Calls Tryz.prog 57 #[.agg #[.int .i64 df, .int .i64 ds, .int .i64 dl, .int .i64 dp, .slice ra rn rc]] W (ErrPost (deckErr ⟨df, ds, dl, dp, ra, rn, rc, rates⟩) W)) := fun W h => deckFault_any W _ h
              generalize deckErr ⟨df, ds, dl, dp, ra, rn, rc, rates⟩ = E at HEI HDV
              as_aux_lemma =>
                go_wp2_with fail
                refine (HDV.out _ (HFI.out.below (ext_alloc (Below.refl _ _)))).mono ?_
                rintro e w5 ⟨rfl, hb5⟩
                obtain ⟨qc9, qf⟩ := bcell hb5
                have hz5 : wr.heap.size < w5.heap.size := by have := hb5.size; simp at this; omega
                have f0 : w5.cell? ⟨wr.heap.size, 0, none⟩ = some (.int .i64 df) := (qc9 _ 0 (by simp)).trans (by go_simp)
                have HB5 : Hid (Below wo.heap.size wo w5) := ext_trans (ext_alloc HB.out) hb5
                have HBn := Lib.hid (ext_trans HB3.out HB5.out)
                have d2 := (HB5.out.cell (p := ⟨T, 2, none⟩) hz3).trans e2
                generalize wr.heap.size = T2 at f0 hz5 ⊢
                clear qc9 qf hb5 c0 c1 c2 c3 c4 HDV HFI
                by_cases hE : E = 0
                case neg =>
                  have hEb : (E != 0) = true := by simp [hE]
                  obtain rfl : Y = E := by rw [HEI.out, if_pos hE]
                  obtain rfl : R = Y := HST.out hE
                  clear HEI HST HNI HPI HNX HSTOP HER3
                  skip
                  as_aux_lemma =>
                    go_wp2_with fail
                    go_ret
                    exact ⟨rfl, HBn.out⟩
                subst hE
                have HEI1 : Hid (Y = if 0 < i ∧ df ≤ yf then 7 else 0) := by show _ = _; rw [HEI.out, if_neg (by simp)]
                clear HEI
                by_cases hi0 : i = 0
                · subst hi0
                  have HZ2 := Lib.hid (HNI.out (by rw [HEI1.out, if_neg (fun h => by omega)]))
                  clear HEI1 HNI HST HPI
                  skip
                  as_aux_lemma =>
                    go_wp2_with fail
                    go_quiet (fail)
                    go_wp2_with fail
                    go_roundw
                    case rel => exact ⟨1, by omega, by go_num, HZ2.out, ext_drewN HB5.out⟩
                    case measure => simp [intOf]; omega
                obtain ⟨v, rfl⟩ : ∃ v, i = v + 1 := ⟨i - 1, by omega⟩
                have p0 := HPI.out (by omega)
                rw [Nat.add_sub_cancel] at p0
                have g0 := (HB5.out.cell (p := ⟨b2, off2 + v * 5, none⟩) hb2).trans p0
                have w1 : IntKind.i64.wrap (v : Int) = v := IntWalk.i64_in _ (by omega)
                have w2 : IntKind.i64.wrap ((v : Int) + 1 - 1) = v := by rw [Int.add_sub_cancel]; exact w1
                have w3' : (v : Int) < dn := by omega
                have w4 : (0 : Int) ≤ (v : Int) := by omega
                clear HPI p0 hi0
                by_cases hff : df ≤ yf
                · obtain rfl : Y = 7 := by rw [HEI1.out, if_pos ⟨by omega, hff⟩]
                  obtain rfl : R = 7 := HST.out (by decide)
                  have hfd : decide (df ≤ yf) = true := decide_eq_true hff
                  clear HEI1 HST HNI HNX HSTOP HER3
                  skip
                  as_aux_lemma =>
                    go_wp2_with fail
                    go_quiet (fail)
                    go_wp2_with fail
                    go_ret
                    exact ⟨rfl, ext_drewN HBn.out⟩
                have hfd : decide (df ≤ yf) = false := decide_eq_false hff
                have HZ2 := Lib.hid (HNI.out (by rw [HEI1.out, if_neg (fun h => hff h.2)]))
                clear HEI1 HNI HST
                skip
                as_aux_lemma =>
                  go_wp2_with fail
                  go_quiet (fail)
                  go_wp2_with fail
                  go_roundw
                  case rel => exact ⟨v + 1 + 1, by omega, by go_num, HZ2.out, ext_drewN HB5.out⟩
                  case measure => simp [intOf]; omega
      obtain ⟨j, rfl⟩ : ∃ j, k = j + 1 := ⟨k - 1, by omega⟩
      have p0 := HPV.out (by omega)
      rw [Nat.add_sub_cancel] at p0
      have g0 := (HB3.out.cell (p := ⟨b, off + j * 3, none⟩) hb).trans p0
      have w1 : IntKind.i64.wrap (j : Int) = j := IntWalk.i64_in _ (by omega)
      have w2 : IntKind.i64.wrap ((j : Int) + 1 - 1) = j := by rw [Int.add_sub_cancel]; exact w1
      have w3' : (j : Int) < n := by omega
      have w4 : (0 : Int) ≤ (j : Int) := by omega
      clear HPV p0 hk0
      cases hls : Op.bytesLess qk ck
      · obtain rfl : X = 7 := by rw [HER1.out, if_pos ⟨by omega, hls⟩]
        obtain rfl : R = 7 := HSTOP.out (by decide)
        clear HER1 HSTOP HNX
        by_cases hxe : ck = qk
        · subst hxe
          skip
          as_aux_lemma =>
            go_wp2_with fail
            go_quiet (fail)
            go_wp2_with fail
            go_ret
            exact ⟨rfl, ext_drewN HB3.out⟩
        · have hx1 : Op.bytesLess ck qk = true := less_total qk ck hls (Ne.symm hxe)
          skip
          as_aux_lemma =>
            go_wp2_with fail
            go_quiet (fail)
            go_wp2_with fail
            go_ret
            exact ⟨rfl, ext_drewN HB3.out⟩
      have HER2 : Hid (X = if inB cl 1 100000 = false then 1
        else if 20 < dn then 2
        else firstErr (deckAtErr dk) dn) := by show _ = _; rw [HER1.out, if_neg (fun h => by rw [hls] at h; cases h.2)]
      obtain ⟨hx1, hx2⟩ := less_asym hls
      have hx3 : (ck == qk) = false := beq_eq_false_iff_ne.2 (fun e => hx2 e.symm)
      clear HER1 hx2
      skip
      as_aux_lemma =>
        go_wp2_with fail
        go_quiet (fail)
        go_wp2_with fail
        refine (in_same cl 1 100000 _).mono ?_
        rintro e w4 ⟨rfl, rfl⟩
        have HB3d : Hid (Below w.heap.size w (World.drewN w3 nq)) := ext_drewN HB3.out
        generalize inB cl 1 100000 = g2 at HER2 ⊢
        cases g2
        · obtain rfl : X = 1 := by rw [HER2.out, if_pos rfl]
          obtain rfl : R = 1 := HSTOP.out (by decide)
          clear HER2 HSTOP HNX
          skip
          as_aux_lemma =>
            go_wp2_with fail
            go_ret
            exact ⟨rfl, HB3d.out⟩
        by_cases hd20 : 20 < dn
        · obtain rfl : X = 2 := by rw [HER2.out, if_neg (by decide), if_pos hd20]
          obtain rfl : R = 2 := HSTOP.out (by decide)
          have hdI : (20 : Int) < dn := by omega
          clear HER2 HSTOP HNX
          skip
          as_aux_lemma =>
            go_wp2_with fail
            go_ret
            exact ⟨rfl, HB3d.out⟩
        have HER3 : Hid (X = firstErr (deckAtErr dk) dn) := by show _ = _; rw [HER2.out, if_neg (by decide), if_neg hd20]
        have hdI : ¬ (20 : Int) < dn := by omega
        clear HER2
        skip
        as_aux_lemma =>
          go_wp2_with fail
          clear hdI
          have HDR3 := Lib.hid (HDR.out.below HB3.out)
          obtain ⟨wo, rfl⟩ : ∃ wo : World, wo = w3 := ⟨_, rfl⟩
          go_loopw [50] (fun it wr => ∃ i : Nat, i ≤ dn ∧ it = .int .i64 i ∧ Hid (∀ j, j < i → deckAtErr dk j = 0) ∧ Hid (Below wo.heap.size wo wr)) (fun it _ => dn - (intOf it).toNat)
          case atStart => exact ⟨0, Nat.zero_le _, rfl, fun j hj => by omega, ext_drewN (Below.refl _ _)⟩
          case round =>
            obtain ⟨i, hi, rfl, HZ, HB⟩ := hrel
            by_cases hlt2 : i < dn
            case neg =>
              obtain rfl : i = dn := by omega
              have HZ2 := Lib.hid (HNX.out (by rw [HER3.out]; exact first_none HZ.out))
              have HBn := Lib.hid (ext_trans HB3.out HB.out)
              clear HER3 HNX HSTOP HZ
              skip
              as_aux_lemma =>
                go_wp2_with fail
                go_roundw
                case rel => exact ⟨j + 1 + 1, by omega, by go_num, HZ2.out, HBn.out⟩
                case measure => simp [intOf]; omega
            obtain ⟨b2, off2, rfl, hb2, hc⟩ := HDR3.out.at (by omega)
            have HCC := Lib.hid hc
            obtain ⟨q0, q1, q2, q3, q4⟩ := hc i hlt2
            have c0 := (HB.out.cell (p := ⟨b2, off2 + i * 5, none⟩) hb2).trans q0
            have c1 := (HB.out.cell (p := ⟨b2, off2 + i * 5 + 1, none⟩) hb2).trans q1
            have c2 := (HB.out.cell (p := ⟨b2, off2 + i * 5 + 2, none⟩) hb2).trans q2
            have c3 := (HB.out.cell (p := ⟨b2, off2 + i * 5 + 3, none⟩) hb2).trans q3
            have c4 := (HB.out.cell (p := ⟨b2, off2 + i * 5 + 4, none⟩) hb2).trans q4
            have d2 := (HB.out.cell (p := ⟨T, 2, none⟩) hz3).trans e2
            have HFI : Hid (DeckFine wr (dk.getD i noDeck)) := (HDR3.out.each i (by rw [← HDL.out]; exact hlt2)).below HB.out
            have HEI : Hid (deckAtErr dk i = if deckErr (dk.getD i noDeck) ≠ 0 then deckErr (dk.getD i noDeck) else if 0 < i ∧ (dk.getD i noDeck).from_ ≤ (dk.getD (i - 1) noDeck).from_ then 7 else 0) := rfl
            have HST : Hid (deckAtErr dk i ≠ 0 → R = deckAtErr dk i) := fun h => by
              have h9 := first_some (f := deckAtErr dk) HZ.out hlt2 h
              rw [HSTOP.out (by rw [HER3.out, h9]; exact h), HER3.out, h9]
            have HNI : Hid (deckAtErr dk i = 0 → ∀ j, j < i + 1 → deckAtErr dk j = 0) := fun h j hj => by
              rcases Nat.lt_succ_iff_lt_or_eq.1 hj with h9 | rfl
              · exact HZ.out j h9
              · exact h
            have HPI : Hid (0 < i → wo.cell? ⟨b2, off2 + (i - 1) * 5, none⟩ = some (.int .i64 (dk.getD (i - 1) noDeck).from_)) := fun h => (HCC.out (i - 1) (by omega)).1
            clear q0 q1 q2 q3 q4 hc HCC HZ
            generalize deckAtErr dk i = Y at HEI HST HNI
            generalize dk.getD i noDeck = d at c0 c1 c2 c3 c4 HFI HEI
            generalize dk.getD (i - 1) noDeck = y at HEI HPI
            obtain ⟨df, ds, dl, dp, ra, rn, rc, rates⟩ := d
            obtain ⟨yf, ys, yl, yp, ya, yn, yc, yrates⟩ := y
            simp only at c0 c1 c2 c3 c4 HEI HPI
            have HDV : Hid (∀ W, DeckFine W ⟨df, ds, dl, dp, ra, rn, rc, rates⟩ → Calls Tryz.prog 57 #[.agg #[.int .i64 df, .int .i64 ds, .int .i64 dl, .int .i64 dp, .slice ra rn rc]] W (ErrPost (deckErr ⟨df, ds, dl, dp, ra, rn, rc, rates⟩) W)) := fun W h => deckFault_any W _ h
            generalize deckErr ⟨df, ds, dl, dp, ra, rn, rc, rates⟩ = E at HEI HDV
            as_aux_lemma =>
              go_wp2_with fail
              refine (HDV.out _ (HFI.out.below (ext_alloc (Below.refl _ _)))).mono ?_
              rintro e w5 ⟨rfl, hb5⟩
              obtain ⟨qc9, qf⟩ := bcell hb5
              have hz5 : wr.heap.size < w5.heap.size := by have := hb5.size; simp at this; omega
              have f0 : w5.cell? ⟨wr.heap.size, 0, none⟩ = some (.int .i64 df) := (qc9 _ 0 (by simp)).trans (by go_simp)
              have HB5 : Hid (Below wo.heap.size wo w5) := ext_trans (ext_alloc HB.out) hb5
              have HBn := Lib.hid (ext_trans HB3.out HB5.out)
              have d2 := (HB5.out.cell (p := ⟨T, 2, none⟩) hz3).trans e2
              generalize wr.heap.size = T2 at f0 hz5 ⊢
              clear qc9 qf hb5 c0 c1 c2 c3 c4 HDV HFI
              by_cases hE : E = 0
              case neg =>
                have hEb : (E != 0) = true := by simp [hE]
                obtain rfl : Y = E := by rw [HEI.out, if_pos hE]
                obtain rfl : R = Y := HST.out hE
                clear HEI HST HNI HPI HNX HSTOP HER3
                skip
                as_aux_lemma =>
                  go_wp2_with fail
                  go_ret
                  exact ⟨rfl, HBn.out⟩
              subst hE
              have HEI1 : Hid (Y = if 0 < i ∧ df ≤ yf then 7 else 0) := by show _ = _; rw [HEI.out, if_neg (by simp)]
              clear HEI
              by_cases hi0 : i = 0
              · subst hi0
                have HZ2 := Lib.hid (HNI.out (by rw [HEI1.out, if_neg (fun h => by omega)]))
                clear HEI1 HNI HST HPI
                skip
                as_aux_lemma =>
                  go_wp2_with fail
                  go_quiet (fail)
                  go_wp2_with fail
                  go_roundw
                  case rel => exact ⟨1, by omega, by go_num, HZ2.out, ext_drewN HB5.out⟩
                  case measure => simp [intOf]; omega
              obtain ⟨v, rfl⟩ : ∃ v, i = v + 1 := ⟨i - 1, by omega⟩
              have p0 := HPI.out (by omega)
              rw [Nat.add_sub_cancel] at p0
              have g0 := (HB5.out.cell (p := ⟨b2, off2 + v * 5, none⟩) hb2).trans p0
              have w1 : IntKind.i64.wrap (v : Int) = v := IntWalk.i64_in _ (by omega)
              have w2 : IntKind.i64.wrap ((v : Int) + 1 - 1) = v := by rw [Int.add_sub_cancel]; exact w1
              have w3' : (v : Int) < dn := by omega
              have w4 : (0 : Int) ≤ (v : Int) := by omega
              clear HPI p0 hi0
              by_cases hff : df ≤ yf
              · obtain rfl : Y = 7 := by rw [HEI1.out, if_pos ⟨by omega, hff⟩]
                obtain rfl : R = 7 := HST.out (by decide)
                have hfd : decide (df ≤ yf) = true := decide_eq_true hff
                clear HEI1 HST HNI HNX HSTOP HER3
                skip
                as_aux_lemma =>
                  go_wp2_with fail
                  go_quiet (fail)
                  go_wp2_with fail
                  go_ret
                  exact ⟨rfl, ext_drewN HBn.out⟩
              have hfd : decide (df ≤ yf) = false := decide_eq_false hff
              have HZ2 := Lib.hid (HNI.out (by rw [HEI1.out, if_neg (fun h => hff h.2)]))
              clear HEI1 HNI HST
              skip
              as_aux_lemma =>
                go_wp2_with fail
                go_quiet (fail)
                go_wp2_with fail
                go_roundw
                case rel => exact ⟨v + 1 + 1, by omega, by go_num, HZ2.out, ext_drewN HB5.out⟩
                case measure => simp [intOf]; omega
end Go.Proofs.YtppinnjdaoaddaaGreatDoor

set_option linter.unusedVariables false
set_option linter.unusedSimpArgs false
namespace Go.Proofs.YtppinnjdaoaddaaGreatDoor
open Go.RowKit

/-- The first one that is not 0; 0 where there is none. -/
def firstL : List Int → Int
  | [] => 0
  | a :: l => if a ≠ 0 then a else firstL l
theorem firstL_at : ∀ (l : List Int) (k : Nat), k < l.length → firstL (l.drop k) = if l.getD k 0 ≠ 0 then l.getD k 0 else firstL (l.drop (k + 1))
  | [], k, h => by simp at h
  | a :: l, 0, _ => rfl
  | a :: l, k + 1, h => firstL_at l k (by simpa using h)
set_option maxRecDepth 100000 in
theorem orN_any (l : List Int) (B n : Nat) (hn : n = l.length) (hl : n ≤ 1000) (w : World) (hB : B < w.heap.size) (hc : ∀ i, i < n → w.cell? ⟨B, i, none⟩ = some (.int .i64 (l.getD i 0))) : Calls Tryz.prog 14 #[.slice (some ⟨B, 0, none⟩) n n] w fun r w' => r = .returned (.int .i64 (firstL l)) ∧ w = w' := by
  have HC := Lib.hid hc
  have HF : Hid (∀ k, k < n → firstL (l.drop k) = if l.getD k 0 ≠ 0 then l.getD k 0 else firstL (l.drop (k + 1))) := fun k hk => firstL_at l k (by omega)
  have HZ : Hid (firstL (l.drop n) = 0) := by show _ = _; rw [hn, List.drop_length]; rfl
  have HS : Hid (firstL l = firstL (l.drop 0)) := rfl
  clear hc hn
  generalize firstL l = R at HS ⊢
  go_enter Tryz.func14, Tryz.ntmps14
  go_wp2_with fail
  go_loopw [8] (fun i wr => ∃ k : Nat, k ≤ n ∧ i = .int .i64 k ∧ Hid (R = firstL (l.drop k)) ∧ Hid (w = wr)) (fun i _ => n - (intOf i).toNat)
  case atStart => exact ⟨0, by omega, rfl, HS.out, rfl⟩
  case round =>
    obtain ⟨k, hk, rfl, HD, HW⟩ := hrel
    obtain rfl : w = wr := HW.out
    by_cases hlt : k < n
    · have c0 := HC.out k hlt
      have HFk := Lib.hid (HF.out k hlt)
      generalize l.getD k 0 = x at c0 HFk
      by_cases hx : x = 0
      · subst hx
        go_wp2_with fail
        go_roundw
        case rel => exact ⟨k + 1, by omega, by go_num, by show _ = _; rw [HD.out, HFk.out, if_neg (by simp)], (by first | exact rfl | exact True.intro)⟩
        case measure => simp [intOf]; omega
      · have hxb : (x == 0) = false := by simpa using hx
        have HE : Hid (R = x) := by show _ = _; rw [HD.out, HFk.out, if_pos hx]
        go_wp2_with fail
        go_ret
        exact ⟨by rw [HE.out]; rfl, rfl⟩
    · obtain rfl : k = n := by omega
      have HE : Hid (R = 0) := by show _ = _; rw [HD.out, HZ.out]
      go_wp2_with fail
      go_ret
      exact ⟨by rw [HE.out]; rfl, rfl⟩
theorem first3 (a b c : Int) : firstL [a, b, c] = firstE a (firstE b c) := by
  unfold firstL firstL firstL firstL firstE
  split <;> first | rfl | (split <;> first | rfl | (split <;> first | rfl | omega))
theorem or3_any (a b c : Int) (B : Nat) (w : World) (hB : B < w.heap.size) (h0 : w.cell? ⟨B, 0, none⟩ = some (.int .i64 a)) (h1 : w.cell? ⟨B, 1, none⟩ = some (.int .i64 b)) (h2 : w.cell? ⟨B, 2, none⟩ = some (.int .i64 c)) : Calls Tryz.prog 14 #[.slice (some ⟨B, 0, none⟩) 3 3] w fun r w' => r = .returned (.int .i64 (firstE a (firstE b c))) ∧ w = w' := by
  rw [← first3]
  exact orN_any [a, b, c] B 3 rfl (by decide) w hB (fun i hi => by match i, hi with | 0, _ => exact h0 | 1, _ => exact h1 | 2, _ => exact h2)
end Go.Proofs.YtppinnjdaoaddaaGreatDoor

set_option linter.unusedVariables false
namespace Go.Proofs.YtppinnjdaoaddaaGreatDoor
open Go.RowKit

theorem when_l (b : Bool) (e : Int) (w : World) : Calls Tryz.prog 15 #[.bool b, .int .i64 e] w fun r w' => r = .returned (.int .i64 (if b = true then e else 0)) ∧ w = w' := by
  cases b
  · go_enter Tryz.func15, Tryz.ntmps15
    go_wp2_with fail
    go_ret
    exact ⟨rfl, rfl⟩
  · go_enter Tryz.func15, Tryz.ntmps15
    go_wp2_with fail
    go_ret
    exact ⟨rfl, rfl⟩
end Go.Proofs.YtppinnjdaoaddaaGreatDoor

set_option linter.unusedVariables false
set_option linter.unusedSimpArgs false
namespace Go.Proofs.YtppinnjdaoaddaaGreatDoor
open Go.RowKit

theorem bo_rec (e : Operand → Value) (he : ∀ v, e (.const v) = v) (o : Oper) (w : World) (p0 : ByteArray) (ho : o.op = .build 83 #[(0, .const (.string p0))]) :
   (execOp e o).run Tryz.prog w = .ok (.value (.agg #[.string p0, .string ⟨#[]⟩, .string ⟨#[]⟩, .int .i64 0, .int .i64 0, .int .i64 0, .int .i64 0, .string ⟨#[]⟩])) w := by
  unfold execOp
  rw [ho]
  simp only [List.map_toArray, List.map_cons, List.map_nil, he]
  kernel_rfl
theorem dk_join1 (l : List Carr) (key : List UInt8) (t : Int) (h : carrsErr l ≠ 0) : firstE (carrsErr l) (firstE 0 (if isMomB t = true then 0 else 1)) = dkE l key t := by
  unfold firstE dkE
  rw [if_pos h, if_pos h]
theorem dk_join2 (l : List Carr) (key : List UInt8) (t : Int) (h : carrsErr l = 0) : firstE (carrsErr l) (firstE (if decide (idxC l key < 0) = true then 8 else 0) (if isMomB t = true then 0 else 1)) = dkE l key t := by
  unfold firstE dkE
  rw [h]
  by_cases h1 : idxC l key < 0 <;> cases isMomB t <;> simp [h1]
theorem dk_zero {l : List Carr} {key : List UInt8} {t : Int} (h : dkE l key t = 0) : 0 ≤ idxC l key ∧ (idxC l key).toNat < l.length ∧ dkX l key t = deckV (l.getD (idxC l key).toNat noCarr).decks t := by
  have h1 : ¬ idxC l key < 0 := by
    unfold dkE at h
    split at h
    · rename_i h1; exact absurd h h1
    · split at h
      · cases h
      · assumption
  exact ⟨by omega, idxC_lt (by omega), by unfold dkX; rw [if_pos h]⟩
theorem dkX_row {w : World} {a : Option Addr} {n : Nat} {l : List Carr} (h : CarrRow w a n l) (key : List UInt8) (t : Int) : RateRow w ((dkX l key t).getD noDeck).ra ((dkX l key t).getD noDeck).rn ((dkX l key t).getD noDeck).rates := by
  by_cases h0 : dkE l key t = 0
  · obtain ⟨h1, h2, h3⟩ := dk_zero h0
    rw [h3]
    exact deckV_fineR (h.each _ h2).row t
  · have : dkX l key t = none := by unfold dkX; rw [if_neg h0]
    rw [this]
    exact rate_row0R w
theorem off_join (l : List Carr) (nm : List UInt8) (t : Int) : firstE (carrsErr l) (firstE (if isNumB nm = true then 0 else 3) (if isMomB t = true then 0 else 1)) = offE l nm t := by
  unfold firstE offE
  generalize carrsErr l = F
  cases isNumB nm <;> cases isMomB t <;> simp
theorem off_zero {l : List Carr} {nm : List UInt8} {t : Int} (h : offE l nm t = 0) : carrsErr l = 0 ∧ isNumB nm = true := by
  unfold offE at h
  split at h
  · rename_i h1; exact absurd h h1
  · rename_i h1
    split at h
    · cases h
    · rename_i h2; exact ⟨Classical.not_not.1 h1, by simpa using h2⟩
theorem bl_lof0 (e : Operand → Value) (he : ∀ v, e (.const v) = v) (o : Oper) (w : World)  (p0 : ByteArray) (p1 : ByteArray) (p2 : ByteArray) (ho : o.op = .buildSlice 121 3 #[(0, .const (.string p0)), (1, .const (.string p1)), (2, .const (.string p2))])  :
   (execOp e o).run Tryz.prog w = .ok (.value (.slice (some ⟨w.heap.size, 0, none⟩) 3 3)) (w.alloc (.cells #[.string p0, .string p1, .string p2] 9)) := by
  unfold execOp
  rw [ho]
  simp only [List.map_toArray, List.map_cons, List.map_nil, he]
  kernel_rfl
theorem bl_lof1 (e : Operand → Value) (he : ∀ v, e (.const v) = v) (o : Oper) (w : World)  (p0 : ByteArray) (p1 : ByteArray) (p2 : ByteArray) (p3 : ByteArray) (p4 : ByteArray) (ho : o.op = .buildSlice 121 5 #[(0, .const (.string p0)), (1, .const (.string p1)), (2, .const (.string p2)), (3, .const (.string p3)), (4, .const (.string p4))])  :
   (execOp e o).run Tryz.prog w = .ok (.value (.slice (some ⟨w.heap.size, 0, none⟩) 5 5)) (w.alloc (.cells #[.string p0, .string p1, .string p2, .string p3, .string p4] 9)) := by
  unfold execOp
  rw [ho]
  simp only [List.map_toArray, List.map_cons, List.map_nil, he]
  kernel_rfl
theorem bl_lof2 (e : Operand → Value) (he : ∀ v, e (.const v) = v) (o : Oper) (w : World) (i0 : Nat) (i1 : Nat) (i2 : Nat) (z0 : Int) (z1 : Int) (z2 : Int) (ho : o.op = .buildSlice 114 3 #[(0, .tmp i0), (1, .tmp i1), (2, .tmp i2)]) (h0 : e (.tmp i0) = .int .i64 z0) (h1 : e (.tmp i1) = .int .i64 z1) (h2 : e (.tmp i2) = .int .i64 z2) :
   (execOp e o).run Tryz.prog w = .ok (.value (.slice (some ⟨w.heap.size, 0, none⟩) 3 3)) (w.alloc (.cells #[.int .i64 z0, .int .i64 z1, .int .i64 z2] 38)) := by
  unfold execOp
  rw [ho]
  simp only [List.map_toArray, List.map_cons, List.map_nil, h0, h1, h2]
  kernel_rfl
theorem bl_lof3 (e : Operand → Value) (he : ∀ v, e (.const v) = v) (o : Oper) (w : World) (i0 : Nat) (i1 : Nat) (z0 : Int) (z1 : Int) (ho : o.op = .buildSlice 114 2 #[(0, .tmp i0), (1, .tmp i1)]) (h0 : e (.tmp i0) = .int .i64 z0) (h1 : e (.tmp i1) = .int .i64 z1) :
   (execOp e o).run Tryz.prog w = .ok (.value (.slice (some ⟨w.heap.size, 0, none⟩) 2 2)) (w.alloc (.cells #[.int .i64 z0, .int .i64 z1] 38)) := by
  unfold execOp
  rw [ho]
  simp only [List.map_toArray, List.map_cons, List.map_nil, h0, h1]
  kernel_rfl
set_option maxRecDepth 100000 in
set_option maxHeartbeats 80000000 in
theorem offer_true (w : World) (a0 : Option Addr) (len cap : Nat) (zs : List Int) (hr : ArgRow w a0 len cap zs) (hT : TabW w.heap.size w) :
    Calls Tryz.prog 4 #[.slice a0 len cap] w fun e w' => e = .returned (.bool true) ∧ Below w.heap.size w w' := by
  have HS0 := Lib.hid (stream_start hr)
  have HT0 : Hid (TabW w.heap.size (w.alloc (.cells #[.slice a0 len cap, .int .i64 0] 25))) := tab_below hT (ext_alloc (Below.refl _ _)) (Nat.le_refl _)
  have HEND : Hid (∀ W, Keeps w.heap.size (w.alloc (.cells #[.slice a0 len cap, .int .i64 0] 25)) W → Below w.heap.size w W) := fun W h => law_end h
  have hsz : w.heap.size < (w.alloc (.cells #[.slice a0 len cap, .int .i64 0] 25)).heap.size := by simp
  clear hr hT
  go_enter Tryz.func4, Tryz.ntmps4
  go_wp2_with fail
  refine (carriers_any w.heap.size 0 _ HS0.out (by omega)).mono ?_
  rintro e w1 ⟨v1, l, rfl, ho, hl3, hif, hst, hk'⟩
  have hsz1 : w.heap.size < w1.heap.size := Nat.lt_of_lt_of_le hsz hk'.size
  obtain ⟨a, ca, rfl, hca, -⟩ := carr_row ho hif (Keeps.refl w.heap.size w1) hsz (by omega)
  have HRC : Hid (∀ W, Keeps w.heap.size w1 W → CarrRow W a l.length l) := fun W hW => by
    obtain ⟨a9, c9, e9, -, h9⟩ := carr_row ho hif hW hsz (by omega)
    injection e9 with e1 e2 e3
    subst e1
    exact h9
  have HK1 := Lib.hid hk'
  have HS1 := Lib.hid hst
  have HT1 : Hid (TabW w.heap.size w1) := tab_keeps HT0.out hk' hsz
  clear ho hif hst hk' HS0 HT0 hsz
  as_aux_lemma =>
    go_wp2_with ((refine wpList_val rfl (bl_lof0 _ (fun _ => rfl) _ _  ⟨#[120, 97]⟩ ⟨#[120, 98]⟩ ⟨#[120, 122]⟩ rfl) ?_))
    refine (some_lit w.heap.size 400 [[120, 97], [120, 98], [120, 122]] (fun s => s.length ≤ 100) _ _ _ HS1.out (by omega) rfl rfl (by decide) (by decide) (by decide)).mono ?_
    rintro e w2 ⟨key, rfl, hkey, hst, hk'⟩
    have hkey : key.length ≤ 100 := hkey
    have HS2 := Lib.hid hst
    have HR2 := Lib.hid hk'
    clear hst hk' HS1
    as_aux_lemma =>
      go_wp2_with ((refine wpList_val rfl (bl_lof1 _ (fun _ => rfl) _ _  ⟨#[43, 52, 57, 51, 48]⟩ ⟨#[43, 52, 57, 51, 48, 49]⟩ ⟨#[43, 52, 57, 52, 49, 50, 51, 52]⟩ ⟨#[43, 49, 50, 48, 48]⟩ ⟨#[120]⟩ rfl) ?_))
      refine (some_lit w.heap.size (400 + 1) [[43, 52, 57, 51, 48], [43, 52, 57, 51, 48, 49], [43, 52, 57, 52, 49, 50, 51, 52], [43, 49, 50, 48, 48], [120]] (fun s => s.length ≤ 100) _ _ _ HS2.out (by omega) rfl rfl (by decide) (by decide) (by decide)).mono ?_
      rintro e w3 ⟨nm, rfl, hnm, hst, hk'⟩
      have hnm : nm.length ≤ 100 := hnm
      have HS3 := Lib.hid hst
      have HR3 := Lib.hid (HR2.out.trans hk')
      clear hst hk' HS2 HR2
      as_aux_lemma =>
        go_wp2_with fail
        refine (instant_any w.heap.size (400 + 1 + 1) _ HS3.out (by omega)).mono ?_
        rintro e w4 ⟨t, rfl, -, hst, hk'⟩
        have HS4 : Hid (StreamOk w4 w.heap.size (400 + 1 + 1 + 4)) := hst
        have hk4 : Keeps w.heap.size w1 w4 := HR3.out.trans hk'
        have HRW : Hid (∀ W, Keeps w.heap.size w4 W → CarrRow W a l.length l) := fun W hW => HRC.out W (hk4.trans hW)
        have HFIN : Hid (∀ W, Keeps w.heap.size w4 W → Below w.heap.size w W) := fun W hW => HEND.out W (HK1.out.trans (hk4.trans hW))
        have HT4 : Hid (TabW w.heap.size w4) := tab_keeps HT1.out hk4 hsz1
        have hsz4 : w.heap.size < w4.heap.size := Nat.lt_of_lt_of_le hsz1 hk4.size
        clear hst hk' hk4 HS3 HR3 HRC HEND HK1 HT1 hsz1
        have HCF := Lib.hid (fun W (h : Keeps w.heap.size w4 W) => carrFault_any W a l.length ca l (HRW.out W h) hca)
        have HCK := Lib.hid (fun W (h : Keeps w.heap.size w4 W) => checkCarr_any W a l.length ca l (HRW.out W h) hca)
        have HCA := Lib.hid (fun W (h : Keeps w.heap.size w4 W) => carrAt_any W a l.length ca l (HRW.out W h) key)
        have HDA := Lib.hid (fun W (h : Keeps w.heap.size w4 W) => deckAtX_any W a l.length ca l (HRW.out W h) hca key hkey t)
        have HOX := Lib.hid (fun W (h : Keeps w.heap.size w4 W) => offersX_any W a l.length ca l (HRW.out W h) hca hl3 nm hnm t)
        have HMF := Lib.hid (fun W => momentFault_any t W)
        have HFF := Lib.hid (fun W => formFault_any nm W (by omega))
        have HD1 : Hid ((carrsErr l == 0) = false → firstE (carrsErr l) (firstE 0 (if isMomB t = true then 0 else 1)) = dkE l key t) := fun h => dk_join1 l key t (by simpa using h)
        have HD2 : Hid ((carrsErr l == 0) = true → firstE (carrsErr l) (firstE (if decide (idxC l key < 0) = true then 8 else 0) (if isMomB t = true then 0 else 1)) = dkE l key t) := fun h => dk_join2 l key t (by simpa using h)
        have HD3 : Hid (dkE l key t = 0 → 0 ≤ idxC l key ∧ (idxC l key).toNat < l.length ∧ dkX l key t = deckV (l.getD (idxC l key).toNat noCarr).decks t) := fun h => dk_zero h
        have HD4 : Hid (dkE l key t ≠ 0 → dkX l key t = none) := fun h => by unfold dkX; rw [if_neg h]
        have HRD : Hid (∀ W, Keeps w.heap.size w4 W → RateRow W ((dkX l key t).getD noDeck).ra ((dkX l key t).getD noDeck).rn ((dkX l key t).getD noDeck).rates) := fun W hW => dkX_row (HRW.out W hW) key t
        have HO1 := Lib.hid (off_join l nm t)
        generalize hmf : (if isMomB t = true then (0 : Int) else 1) = mf at HMF HD1 HD2 HO1
        clear hmf
        generalize hff : (if isNumB nm = true then (0 : Int) else 3) = ff at HFF HO1
        clear hff
        have HE2N : Hid (offE l nm t = 0 → carrsErr l = 0 ∧ isNumB nm = true) := fun h => off_zero h
        have HOF : Hid (offE l nm t = 0 → ∀ W, Keeps w.heap.size w4 W → Calls Tryz.prog 37 #[.slice a l.length ca, .string ⟨nm.toArray⟩, .int .i64 t] W (OfsPost (insL (ltOf cfP) (offTo l (nm.drop 1) t l.length)) W)) := fun h0 W hW => by
          obtain ⟨q1, q2⟩ := off_zero h0
          obtain ⟨d, q3, -, q4, q5⟩ := num_parts q2
          rw [sort_same (by omega) q1 (nm.drop 1) t l.length (Nat.le_refl _) hl3]
          exact offersFor_any W a l.length ca l (HRW.out W hW) hl3 nm (by rw [q3]; simp) (by rw [q3]; simp; omega) t (good_row (HRW.out W hW) q1)
        have HOL : Hid ((insL (ltOf cfP) (offTo l (nm.drop 1) t l.length)).length ≤ 3) := by
          show _ ≤ _
          rw [insL_len]
          have := offTo_len l (nm.drop 1) t l.length
          omega
        generalize offE l nm t = E2 at HOX HO1 HE2N HOF
        generalize insL (ltOf cfP) (offTo l (nm.drop 1) t l.length) = OL at HOX HOF HOL
        clear HE2N
        generalize dkE l key t = E1 at HDA HD1 HD2 HD3 HD4
        generalize dkX l key t = od at HDA HD3 HD4 HRD
        as_aux_lemma =>
          go_wp2_with fail
          refine (HCF.out _ (Keeps.refl _ _)).mono ?_
          rintro e wa ⟨rfl, hb⟩
          have HKa : Hid (Keeps w.heap.size w4 wa) := Keeps.of_below hb
          have HSa := Lib.hid (HS4.out.below hb)
          clear hb HCF HS4
          as_aux_lemma =>
            go_wp2_with fail
            refine (HCK.out _ HKa.out).mono ?_
            rintro e wb ⟨rfl, hb⟩
            have HKb : Hid (Keeps w.heap.size w4 wb) := HKa.out.trans (Keeps.of_below hb)
            have HSb := Lib.hid (HSa.out.below hb)
            clear hb HKa HSa HCK
            as_aux_lemma =>
              go_wp2_with fail
              refine (HDA.out _ HKb.out).mono ?_
              rintro e wc ⟨a9, c9, rfl, hrr, hb⟩
              have HKc : Hid (Keeps w.heap.size w4 wc) := HKb.out.trans (Keeps.of_below hb)
              have HSc := Lib.hid (HSb.out.below hb)
              have HRRc := Lib.hid hrr
              clear hrr
              clear hb HKb HSb HDA
              have HTX : Hid ((wc.alloc (.cells #[.int .i64 0, .int .i64 0, .int .i64 0, .int .i64 0, .slice none 0 0] 63)).there wc.heap.size 0 5) := (Blk.new wc [.int .i64 0, .int .i64 0, .int .i64 0, .int .i64 0, .slice none 0 0] 63).th 5 (by decide)
              have HXd : Hid (Blk (World.setCells (wc.alloc (.cells #[.int .i64 0, .int .i64 0, .int .i64 0, .int .i64 0, .slice none 0 0] 63)) wc.heap.size 0 [.int .i64 (od.getD noDeck).from_, .int .i64 (od.getD noDeck).setup, .int .i64 (od.getD noDeck).least, .int .i64 (od.getD noDeck).step, .slice a9 (od.getD noDeck).rn c9]) wc.heap.size [.int .i64 (od.getD noDeck).from_, .int .i64 (od.getD noDeck).setup, .int .i64 (od.getD noDeck).least, .int .i64 (od.getD noDeck).step, .slice a9 (od.getD noDeck).rn c9] 63) := ((((((Blk.new wc [.int .i64 0, .int .i64 0, .int .i64 0, .int .i64 0, .slice none 0 0] 63).put 0 _).put 1 _).put 2 _).put 3 _).put 4 _)
              have hA : Below wc.heap.size wc (World.setCells (wc.alloc (.cells #[.int .i64 0, .int .i64 0, .int .i64 0, .int .i64 0, .slice none 0 0] 63)) wc.heap.size 0 [.int .i64 (od.getD noDeck).from_, .int .i64 (od.getD noDeck).setup, .int .i64 (od.getD noDeck).least, .int .i64 (od.getD noDeck).step, .slice a9 (od.getD noDeck).rn c9]) := (ext_alloc (Below.refl _ _)).trans (below_setCells (Nat.le_refl _) _ _ _)
              have HKd : Hid (Keeps w.heap.size w4 (World.setCells (wc.alloc (.cells #[.int .i64 0, .int .i64 0, .int .i64 0, .int .i64 0, .slice none 0 0] 63)) wc.heap.size 0 [.int .i64 (od.getD noDeck).from_, .int .i64 (od.getD noDeck).setup, .int .i64 (od.getD noDeck).least, .int .i64 (od.getD noDeck).step, .slice a9 (od.getD noDeck).rn c9])) := HKc.out.trans (Keeps.of_below hA)
              have HSd := Lib.hid (HSc.out.below hA)
              have HRRd := Lib.hid (HRRc.out.below hA)
              have hXS : wc.heap.size ≠ w.heap.size := by have h9 := HKc.out.size; omega
              clear hA HKc HSc HRRc
              as_aux_lemma =>
                go_upto_region 7 with (refine wpList_store_mid rfl 63 (.tmp 9) (.tmp 45) rfl wc.heap.size 0 #[.int .i64 (od.getD noDeck).from_, .int .i64 (od.getD noDeck).setup, .int .i64 (od.getD noDeck).least, .int .i64 (od.getD noDeck).step, .slice a9 (od.getD noDeck).rn c9] rfl rfl HTX.out Tryz.deckSz (by simp [Value.oneCell']) ?_; generalize (World.setCells (wc.alloc (.cells #[.int .i64 0, .int .i64 0, .int .i64 0, .int .i64 0, .slice none 0 0] 63)) wc.heap.size 0 [.int .i64 (od.getD noDeck).from_, .int .i64 (od.getD noDeck).setup, .int .i64 (od.getD noDeck).least, .int .i64 (od.getD noDeck).step, .slice a9 (od.getD noDeck).rn c9]) = wd at HXd HKd HSd HRRd ⊢)
                generalize wc.heap.size = X at HXd hXS ⊢
                clear HTX
                go_cut [12] (fun v wx => v = .int .i64 E1 ∧ Hid (Below wd.heap.size wd wx))
                case first =>
                  cases hF : (carrsErr l == 0)
                  · have hd := HD1.out hF
                    as_aux_lemma =>
                      go_wp2_with fail
                      refine (when_l false 8 _).mono ?_
                      rintro e w' ⟨rfl, rfl⟩
                      go_wp2_with fail
                      refine (HMF.out _).mono ?_
                      rintro e we ⟨rfl, hb⟩
                      have HBe := Lib.hid hb
                      clear hb
                      as_aux_lemma =>
                        go_wp2_with ((refine wpList_val rfl (bl_lof2 _ (fun _ => rfl) _ _ 48 57 59 ((carrsErr l)) 0 mf rfl rfl rfl rfl) ?_))
                        refine (or3_any (carrsErr l) 0 mf we.heap.size _ (by simp) (by go_simp) (by go_simp) (by go_simp)).mono ?_
                        rintro e w' ⟨rfl, rfl⟩
                        rw [hd]
                        go_wp2_with fail
                        go_meet
                        exact ⟨rfl, ext_alloc HBe.out⟩
                  · have hd := HD2.out hF
                    as_aux_lemma =>
                      go_wp2_with fail
                      refine (HCA.out _ HKd.out).mono ?_
                      rintro e we ⟨rfl, hb⟩
                      have HBe := Lib.hid hb
                      clear hb
                      have HWN := Lib.hid (when_l (decide (idxC l key < 0)) 8)
                      generalize hwn : (if decide (idxC l key < 0) = true then (8 : Int) else 0) = wn at hd HWN
                      clear hwn
                      as_aux_lemma =>
                        go_wp2_with fail
                        refine (HWN.out _).mono ?_
                        rintro e w' ⟨rfl, rfl⟩
                        go_wp2_with fail
                        refine (HMF.out _).mono ?_
                        rintro e wf ⟨rfl, hb⟩
                        have HBf := Lib.hid (ext_trans HBe.out hb)
                        clear hb HBe
                        as_aux_lemma =>
                          go_wp2_with ((refine wpList_val rfl (bl_lof2 _ (fun _ => rfl) _ _ 48 57 59 ((carrsErr l)) wn mf rfl rfl rfl rfl) ?_))
                          refine (or3_any (carrsErr l) wn mf wf.heap.size _ (by simp) (by go_simp) (by go_simp) (by go_simp)).mono ?_
                          rintro e w' ⟨rfl, rfl⟩
                          rw [hd]
                          go_wp2_with fail
                          go_meet
                          exact ⟨rfl, ext_alloc HBf.out⟩
                case rest =>
                  obtain ⟨rfl, HBe⟩ := hcut
                  obtain ⟨wg, rfl⟩ : ∃ x : World, x = wc := ⟨_, rfl⟩
                  have HKg : Hid (Keeps w.heap.size w4 wg) := HKd.out.trans (Keeps.of_below HBe.out)
                  have HSg := Lib.hid (HSd.out.below HBe.out)
                  have HXg := Lib.hid (HXd.out.below HBe.out)
                  have HRRg := Lib.hid (HRRd.out.below HBe.out)
                  clear HBe HKd HSd HXd HRRd HD1 HD2
                  as_aux_lemma =>
                    go_upto_region 10 with (fail)
                    have HY0 : Hid (Blk (wg.alloc (.cells #[.int .i64 0, .int .i64 0, .int .i64 0, .int .i64 0, .slice none 0 0] 63)) wg.heap.size [.int .i64 0, .int .i64 0, .int .i64 0, .int .i64 0, .slice none 0 0] 63) := Blk.new wg [.int .i64 0, .int .i64 0, .int .i64 0, .int .i64 0, .slice none 0 0] 63
                    have hA : Below wg.heap.size wg (wg.alloc (.cells #[.int .i64 0, .int .i64 0, .int .i64 0, .int .i64 0, .slice none 0 0] 63)) := ext_alloc (Below.refl _ _)
                    have HKh : Hid (Keeps w.heap.size w4 (wg.alloc (.cells #[.int .i64 0, .int .i64 0, .int .i64 0, .int .i64 0, .slice none 0 0] 63))) := HKg.out.trans (Keeps.of_below hA)
                    have HSh := Lib.hid (HSg.out.below hA)
                    have HBh := Lib.hid hA
                    have hYw : w4.heap.size ≤ wg.heap.size := HKg.out.size
                    have hXY : X < wg.heap.size := HXg.out.lt
                    clear hA HKg HSg
                    generalize hwh : wg.alloc (.cells #[.int .i64 0, .int .i64 0, .int .i64 0, .int .i64 0, .slice none 0 0] 63) = wh at HY0 HKh HSh HBh ⊢
                    clear hwh
                    go_upto_if 63 with (fail)
                    go_cut [14] (fun v wx => v = .bool od.isSome ∧ Hid (Blk wx wg.heap.size [.int .i64 (od.getD noDeck).from_, .int .i64 (od.getD noDeck).setup, .int .i64 (od.getD noDeck).least, .int .i64 (od.getD noDeck).step, .slice (od.getD noDeck).ra (od.getD noDeck).rn (od.getD noDeck).rc] 63) ∧ Hid (Below wg.heap.size wg wx) ∧ Hid (Keeps w.heap.size w4 wx) ∧ Hid (StreamOk wx w.heap.size (400 + 1 + 1 + 4)))
                    case first =>
                      cases hE : (E1 == 0)
                      · have hod : od = none := HD4.out (by simpa using hE)
                        subst hod
                        as_aux_lemma =>
                          go_wp2_with fail
                          go_meet
                          exact ⟨rfl, HY0.out, HBh.out, HKh.out, HSh.out⟩
                      · obtain ⟨hk0, hkl, hod⟩ := HD3.out (by simpa using hE)
                        obtain ⟨kk, hkk⟩ := Int.eq_ofNat_of_zero_le hk0
                        rw [hkk] at HCA hkl hod
                        have HOD : Hid (od = deckV (l.getD kk noCarr).decks t) := hod
                        have hkn : kk < l.length := hkl
                        clear hk0 hkl hod hkk HD3 HD4
                        as_aux_lemma =>
                          go_wp2_with fail
                          refine (HCA.out _ HKh.out).mono ?_
                          rintro e wj ⟨rfl, hb⟩
                          have HKj : Hid (Keeps w.heap.size w4 wj) := HKh.out.trans (Keeps.of_below hb)
                          have HSj := Lib.hid (HSh.out.below hb)
                          have HYj := Lib.hid (HY0.out.below hb)
                          have HBj := Lib.hid (ext_trans HBh.out hb)
                          clear hb HKh HSh HY0 HBh
                          obtain ⟨b, off, rfl, hbl, hc⟩ := (HRW.out wj HKj.out).at (by omega)
                          obtain ⟨c0, c1, c2⟩ := hc kk hkn
                          have HCX : Hid (CarrFine wj (l.getD kk noCarr)) := (HRW.out wj HKj.out).each kk hkn
                          clear hc
                          generalize l.getD kk noCarr = cx at c0 c1 c2 HCX HOD
                          obtain ⟨ky, ln, da, dn, dc, dk⟩ := cx
                          simp only at c0 c1 c2 HOD
                          have hkni : (kk : Int) < (l.length : Int) := by omega
                          have HDK : Hid (Calls Tryz.prog 32 #[.agg #[.string ⟨ky.toArray⟩, .int .i64 ln, .slice da dn dc], .int .i64 t] wj (DeckAns od wj)) := by
                            show Calls _ _ _ _ _
                            rw [HOD.out]
                            exact deckOf_any wj ky ln da dn dc dk HCX.out.row HCX.out.cap t
                          clear HCX HOD HCA
                          as_aux_lemma =>
                            go_wp2_with fail
                            refine HDK.out.mono ?_
                            rintro e wk ⟨rfl, hb⟩
                            have HYk := Lib.hid (HYj.out.below hb)
                            have HTY : Hid (wk.there wg.heap.size 0 5) := HYk.out.th 5 (by simp)
                            have HYm : Hid (Blk (wk.setCells wg.heap.size 0 [.int .i64 (od.getD noDeck).from_, .int .i64 (od.getD noDeck).setup, .int .i64 (od.getD noDeck).least, .int .i64 (od.getD noDeck).step, .slice (od.getD noDeck).ra (od.getD noDeck).rn (od.getD noDeck).rc]) wg.heap.size [.int .i64 (od.getD noDeck).from_, .int .i64 (od.getD noDeck).setup, .int .i64 (od.getD noDeck).least, .int .i64 (od.getD noDeck).step, .slice (od.getD noDeck).ra (od.getD noDeck).rn (od.getD noDeck).rc] 63) := (((((HYk.out.put 0 _).put 1 _).put 2 _).put 3 _).put 4 _)
                            have HKm : Hid (Keeps w.heap.size w4 (wk.setCells wg.heap.size 0 [.int .i64 (od.getD noDeck).from_, .int .i64 (od.getD noDeck).setup, .int .i64 (od.getD noDeck).least, .int .i64 (od.getD noDeck).step, .slice (od.getD noDeck).ra (od.getD noDeck).rn (od.getD noDeck).rc])) := keeps_setCells hYw _ _ _ (HKj.out.trans (Keeps.of_below hb))
                            have HBm : Hid (Below wg.heap.size wg (wk.setCells wg.heap.size 0 [.int .i64 (od.getD noDeck).from_, .int .i64 (od.getD noDeck).setup, .int .i64 (od.getD noDeck).least, .int .i64 (od.getD noDeck).step, .slice (od.getD noDeck).ra (od.getD noDeck).rn (od.getD noDeck).rc])) := (ext_trans HBj.out hb).trans (below_setCells (Nat.le_refl _) _ _ _)
                            have HSm : Hid (StreamOk (wk.setCells wg.heap.size 0 [.int .i64 (od.getD noDeck).from_, .int .i64 (od.getD noDeck).setup, .int .i64 (od.getD noDeck).least, .int .i64 (od.getD noDeck).step, .slice (od.getD noDeck).ra (od.getD noDeck).rn (od.getD noDeck).rc]) w.heap.size (400 + 1 + 1 + 4)) := (HSj.out.below hb).upto (below_setCells (by omega) _ _ _)
                            clear hb HYk HYj HKj HBj HSj HDK c0 c1 c2
                            as_aux_lemma =>
                              go_wp2_with (refine wpList_store_mid rfl 63 (.tmp 13) (.tmp 73) rfl wg.heap.size 0 #[.int .i64 (od.getD noDeck).from_, .int .i64 (od.getD noDeck).setup, .int .i64 (od.getD noDeck).least, .int .i64 (od.getD noDeck).step, .slice (od.getD noDeck).ra (od.getD noDeck).rn (od.getD noDeck).rc] rfl rfl HTY.out Tryz.deckSz (by simp [Value.oneCell']) ?_; generalize World.setCells wk wg.heap.size 0 _ = wm at HYm HKm HBm HSm ⊢)
                              go_meet
                              exact ⟨rfl, HYm.out, HBm.out, HKm.out, HSm.out⟩
                    case rest =>
                      obtain ⟨rfl, HYi, HBi, HKi, HSi⟩ := hcut
                      obtain ⟨wi, rfl⟩ : ∃ x : World, x = wc := ⟨_, rfl⟩
                      have HXi := Lib.hid (HXg.out.below HBi.out)
                      have HRRi := Lib.hid (HRRg.out.below HBi.out)
                      have HRi := Lib.hid (HRD.out _ HKi.out)
                      generalize wg.heap.size = Y at HYi hXY
                      clear HBi HKh HSh HBh HXg HRRg HY0 HD3 HD4 HCA hYw HRD
                      have HSD : Hid (Calls Tryz.prog 33 #[.agg #[.int .i64 (od.getD noDeck).from_, .int .i64 (od.getD noDeck).setup, .int .i64 (od.getD noDeck).least, .int .i64 (od.getD noDeck).step, .slice a9 (od.getD noDeck).rn c9], .agg #[.int .i64 (od.getD noDeck).from_, .int .i64 (od.getD noDeck).setup, .int .i64 (od.getD noDeck).least, .int .i64 (od.getD noDeck).step, .slice (od.getD noDeck).ra (od.getD noDeck).rn (od.getD noDeck).rc]] wi fun e w' => e = .returned (.bool true) ∧ Below wi.heap.size wi w') := sameDeck_any wi _ _ _ _ a9 _ _ _ _ _ HRRi.out HRi.out
                      have HRX : Hid (wi.rangeAt X 0 [.int .i64 (od.getD noDeck).from_, .int .i64 (od.getD noDeck).setup, .int .i64 (od.getD noDeck).least, .int .i64 (od.getD noDeck).step, .slice a9 (od.getD noDeck).rn c9]) := fun j v hj => by rw [Nat.zero_add]; exact HXi.out.cell j hj
                      have HRY : Hid (wi.rangeAt Y 0 [.int .i64 (od.getD noDeck).from_, .int .i64 (od.getD noDeck).setup, .int .i64 (od.getD noDeck).least, .int .i64 (od.getD noDeck).step, .slice (od.getD noDeck).ra (od.getD noDeck).rn (od.getD noDeck).rc]) := fun j v hj => by rw [Nat.zero_add]; exact HYi.out.cell j hj
                      have x0 := HXi.out.cell 0 rfl
                      have x1 := HXi.out.cell 1 rfl
                      have x2 := HXi.out.cell 2 rfl
                      have x3 := HXi.out.cell 3 rfl
                      have x4 := HXi.out.cell 4 rfl
                      have y0 := HYi.out.cell 0 rfl
                      have y1 := HYi.out.cell 1 rfl
                      have y2 := HYi.out.cell 2 rfl
                      have y3 := HYi.out.cell 3 rfl
                      have y4 := HYi.out.cell 4 rfl
                      clear HXi HYi HRRi HRi
                      go_upto_region 12 with (fail)
                      go_cut [88] (fun v wx => v = .bool false ∧ Hid (Below wi.heap.size wi wx))
                      case first =>
                        have hbb : (od.isSome == od.isSome) = true := by simp
                        have hbn : (od.isSome != od.isSome) = false := by simp
                        as_aux_lemma =>
                          go_wp2_with fail
                          refine HSD.out.mono ?_
                          rintro e wj ⟨rfl, hb⟩
                          have HBj := Lib.hid hb
                          clear hb
                          go_wp2_with fail
                          go_meet
                          exact ⟨rfl, HBj.out⟩
                      case rest =>
                        obtain ⟨rfl, HBj⟩ := hcut
                        obtain ⟨wj, rfl⟩ : ∃ x : World, x = wc := ⟨_, rfl⟩
                        have HKj : Hid (Keeps w.heap.size w4 wj) := HKi.out.trans (Keeps.of_below HBj.out)
                        have HSj := Lib.hid (HSi.out.below HBj.out)
                        clear HBj HKi HSi HSD HRX HRY hXY hXS x0 x1 x2 x3 x4 y0 y1 y2 y3 y4
                        as_aux_lemma =>
                          go_wp2_with fail
                          refine (HOX.out _ HKj.out).mono ?_
                          rintro e wm ⟨v15, ys, rfl, hys, ho, hb⟩
                          have HKm : Hid (Keeps w.heap.size w4 wm) := HKj.out.trans (Keeps.of_below hb)
                          have HSm := Lib.hid (HSj.out.below hb)
                          have HOm := Lib.hid ho
                          have HYS := Lib.hid hys
                          clear hb ho hys HKj HSj HOX
                          as_aux_lemma =>
                            go_wp2_with fail
                            refine (HFF.out _).mono ?_
                            rintro e wn ⟨rfl, hb⟩
                            have HKn : Hid (Keeps w.heap.size w4 wn) := HKm.out.trans (Keeps.of_below hb)
                            have HSn := Lib.hid (HSm.out.below hb)
                            have HOn : Hid (OffRow wn wj.heap.size v15 ys) := own_keep HOm.out hb
                            clear hb HKm HSm HOm HFF
                            as_aux_lemma =>
                              go_wp2_with fail
                              refine (HMF.out _).mono ?_
                              rintro e wo ⟨rfl, hb⟩
                              have HKo : Hid (Keeps w.heap.size w4 wo) := HKn.out.trans (Keeps.of_below hb)
                              have HSo := Lib.hid (HSn.out.below hb)
                              have HOo : Hid (OffRow wo wj.heap.size v15 ys) := own_keep HOn.out hb
                              clear hb HKn HSn HOn HMF
                              as_aux_lemma =>
                                go_wp2_with ((refine wpList_val rfl (bl_lof2 _ (fun _ => rfl) _ _ 96 98 100 ((carrsErr l)) ff mf rfl rfl rfl rfl) ?_))
                                refine (or3_any (carrsErr l) ff mf wo.heap.size _ (by simp) (by go_simp) (by go_simp) (by go_simp)).mono ?_
                                rintro e w' ⟨rfl, rfl⟩
                                rw [HO1.out]
                                have hA : Below wo.heap.size wo (wo.alloc (.cells #[.int .i64 (carrsErr l), .int .i64 ff, .int .i64 mf] 38)) := ext_alloc (Below.refl _ _)
                                have HKp : Hid (Keeps w.heap.size w4 (wo.alloc (.cells #[.int .i64 (carrsErr l), .int .i64 ff, .int .i64 mf] 38))) := HKo.out.trans (Keeps.of_below hA)
                                have HSp := Lib.hid (HSo.out.below hA)
                                have HOp : Hid (OffRow (wo.alloc (.cells #[.int .i64 (carrsErr l), .int .i64 ff, .int .i64 mf] 38)) wj.heap.size v15 ys) := own_keep HOo.out hA
                                clear hA HKo HSo HOo HO1
                                generalize World.alloc wo _ = wp at HKp HSp HOp ⊢
                                as_aux_lemma =>
                                  go_upto_region 16 with (fail)
                                  go_cut [118] (fun v wx => v = .bool false ∧ Hid (Below wp.heap.size wp wx))
                                  case first =>
                                    cases hE : (E2 == 0)
                                    · skip
                                      as_aux_lemma =>
                                        go_wp2_with fail
                                        go_meet
                                        exact ⟨rfl, by first | exact Below.refl _ _ | exact ext_drew (Below.refl _ _)⟩
                                    · have hE0 : E2 = 0 := by simpa using hE
                                      have HOF2 := Lib.hid (HOF.out hE0 _ HKp.out)
                                      have hyo : ys = OL := by rw [HYS.out, if_pos hE0]
                                      have HYO := Lib.hid hyo
                                      clear hE0 hyo HOF
                                      as_aux_lemma =>
                                        go_wp2_with fail
                                        refine HOF2.out.mono ?_
                                        rintro e wq ⟨v16, rfl, ho, hb⟩
                                        have HBq := Lib.hid hb
                                        have HEQ : Hid (Calls Tryz.prog 36 #[v15, v16] wq fun e w' => e = .returned (.bool true) ∧ Below wq.heap.size wq w') := equal_offers (own_keep HOp.out hb) ho HYO.out (by rw [HYO.out]; have := HOL.out; omega)
                                        clear hb ho HOF2 HYO
                                        as_aux_lemma =>
                                          go_wp2_with fail
                                          refine HEQ.out.mono ?_
                                          rintro e wr ⟨rfl, hb⟩
                                          have HBr := Lib.hid (ext_trans HBq.out hb)
                                          clear hb HBq HEQ
                                          go_wp2_with fail
                                          go_meet
                                          exact ⟨rfl, HBr.out⟩
                                  case rest =>
                                    obtain ⟨rfl, HBq⟩ := hcut
                                    obtain ⟨wq, rfl⟩ : ∃ x : World, x = wc := ⟨_, rfl⟩
                                    have HKq : Hid (Keeps w.heap.size w4 wq) := HKp.out.trans (Keeps.of_below HBq.out)
                                    have HSq := Lib.hid (HSp.out.below HBq.out)
                                    clear HBq HKp HSp HOp HOF HOL HYS
                                    have HTB : Hid ((wq.alloc (.cells #[.string ⟨#[]⟩, .string ⟨#[]⟩, .string ⟨#[]⟩, .int .i64 0, .int .i64 0, .int .i64 0, .int .i64 0, .string ⟨#[]⟩] 83)).there wq.heap.size 0 8) := (Blk.new wq [.string ⟨#[]⟩, .string ⟨#[]⟩, .string ⟨#[]⟩, .int .i64 0, .int .i64 0, .int .i64 0, .int .i64 0, .string ⟨#[]⟩] 83).th 8 (by decide)
                                    have HRq : Hid (Blk (World.setCells (wq.alloc (.cells #[.string ⟨#[]⟩, .string ⟨#[]⟩, .string ⟨#[]⟩, .int .i64 0, .int .i64 0, .int .i64 0, .int .i64 0, .string ⟨#[]⟩] 83)) wq.heap.size 0 [.string ⟨#[111]⟩, .string ⟨#[]⟩, .string ⟨#[]⟩, .int .i64 0, .int .i64 0, .int .i64 0, .int .i64 0, .string ⟨#[]⟩]) wq.heap.size [.string ⟨#[111]⟩, .string ⟨#[]⟩, .string ⟨#[]⟩, .int .i64 0, .int .i64 0, .int .i64 0, .int .i64 0, .string ⟨#[]⟩] 83) := (((((((((Blk.new wq [.string ⟨#[]⟩, .string ⟨#[]⟩, .string ⟨#[]⟩, .int .i64 0, .int .i64 0, .int .i64 0, .int .i64 0, .string ⟨#[]⟩] 83).put 0 _).put 1 _).put 2 _).put 3 _).put 4 _).put 5 _).put 6 _).put 7 _)
                                    have hA : Below wq.heap.size wq (World.setCells (wq.alloc (.cells #[.string ⟨#[]⟩, .string ⟨#[]⟩, .string ⟨#[]⟩, .int .i64 0, .int .i64 0, .int .i64 0, .int .i64 0, .string ⟨#[]⟩] 83)) wq.heap.size 0 [.string ⟨#[111]⟩, .string ⟨#[]⟩, .string ⟨#[]⟩, .int .i64 0, .int .i64 0, .int .i64 0, .int .i64 0, .string ⟨#[]⟩]) := (ext_alloc (Below.refl _ _)).trans (below_setCells (Nat.le_refl _) _ _ _)
                                    have HKr : Hid (Keeps w.heap.size w4 (World.setCells (wq.alloc (.cells #[.string ⟨#[]⟩, .string ⟨#[]⟩, .string ⟨#[]⟩, .int .i64 0, .int .i64 0, .int .i64 0, .int .i64 0, .string ⟨#[]⟩] 83)) wq.heap.size 0 [.string ⟨#[111]⟩, .string ⟨#[]⟩, .string ⟨#[]⟩, .int .i64 0, .int .i64 0, .int .i64 0, .int .i64 0, .string ⟨#[]⟩])) := HKq.out.trans (Keeps.of_below hA)
                                    have HSr := Lib.hid (HSq.out.below hA)
                                    have hRS : wq.heap.size ≠ w.heap.size := by have h9 := HKq.out.size; omega
                                    have hRw : w4.heap.size ≤ wq.heap.size := HKq.out.size
                                    clear hA HKq HSq
                                    as_aux_lemma =>
                                      go_wp2_with (first | (refine wpList_val rfl (bo_rec _ (fun _ => rfl) _ _ ⟨#[111]⟩ rfl) ?_) | (refine wpList_store_mid rfl 83 (.tmp 17) (.tmp 119) rfl wq.heap.size 0 #[.string ⟨#[111]⟩, .string ⟨#[]⟩, .string ⟨#[]⟩, .int .i64 0, .int .i64 0, .int .i64 0, .int .i64 0, .string ⟨#[]⟩] rfl rfl HTB.out Tryz.rcdSize (by simp [Value.oneCell']) ?_; generalize World.setCells (wq.alloc (.cells #[.string ⟨#[]⟩, .string ⟨#[]⟩, .string ⟨#[]⟩, .int .i64 0, .int .i64 0, .int .i64 0, .int .i64 0, .string ⟨#[]⟩] 83)) wq.heap.size 0 _ = wr at HRq HKr HSr ⊢))
                                      generalize wq.heap.size = R at HRq hRS hRw ⊢
                                      have hszr : w.heap.size < wr.heap.size := by have h9 := HKr.out.size; omega
                                      have HTr : Hid (TabW w.heap.size wr) := tab_keeps HT4.out HKr.out hsz4
                                      refine (outside_any w.heap.size (400 + 1 + 1 + 4) 1 _ HSr.out (by omega) (by omega) HTr.out).mono ?_
                                      rintro e ws ⟨v18, rs, rfl, ho, hrl, hri, hst, hk'⟩
                                      have HKs : Hid (Keeps w.heap.size w4 ws) := HKr.out.trans hk'
                                      have HRs := Lib.hid (HRq.out.keeps hk' hRS)
                                      have HOs := Lib.hid ho
                                      have HIs := Lib.hid hri
                                      have hRz : R < wr.heap.size := HRq.out.lt
                                      clear hst hk' ho hri HKr HSr HRq HTr HT4
                                      obtain ⟨oa, oc, rfl⟩ := own_shape HOs.out
                                      generalize hrn : rs.length = m at HOs hrl ⊢
                                      have HRN := Lib.hid hrn
                                      clear hrn
                                      as_aux_lemma =>
                                        go_upto_if 124 with (fail)
                                        go_cut [18] (fun v wx => v = .slice oa m oc ∧ ∃ r : Rcd, Hid (RcdIn r) ∧ Hid (Blk wx R (Rcd.cells r) 83) ∧ Hid (Keeps w.heap.size w4 wx))
                                        case first =>
                                          by_cases hm0 : m = 0
                                          · have hgt : ¬ (0 : Int) < (m : Int) := by omega
                                            clear hm0
                                            as_aux_lemma =>
                                              go_wp2_with fail
                                              go_meet
                                              exact ⟨rfl, ⟨[111], [], [], 0, 0, 0, 0, []⟩, ⟨by decide, by decide, by decide, by decide, ⟨by decide, by decide⟩, ⟨by decide, by decide⟩, ⟨by decide, by decide⟩, ⟨by decide, by decide⟩⟩, HRs.out, HKs.out⟩
                                          · have hgt : (0 : Int) < (m : Int) := by omega
                                            obtain ⟨g, rfl, -, hg2⟩ := own_pos HOs.out (by omega)
                                            have HAT : Hid (RcdAt ws g 0 (rs.getD 0 noRcd)) := RcdAt.of HOs.out 0 (by have := HRN.out; omega) hg2
                                            have HIX : Hid (RcdIn (rs.getD 0 noRcd)) := HIs.out _ (mem_getD _ (by have := HRN.out; omega))
                                            clear hm0
                                            generalize rs.getD 0 noRcd = x at HAT HIX
                                            obtain ⟨xi, xf, xt, xa, xg, xk, xh, xc⟩ := x
                                            have HRA : Hid (ws.rangeAt g 0 [.string ⟨xi.toArray⟩, .string ⟨xf.toArray⟩, .string ⟨xt.toArray⟩, .int .i64 xa, .int .i64 xg, .int .i64 xk, .int .i64 xh, .string ⟨xc.toArray⟩]) := fun j v hj => by
                                              have q := HAT.out
                                              match j, hj with
                                              | 0, hj => simp at hj; subst hj; exact q.c0
                                              | 1, hj => simp at hj; subst hj; exact q.c1
                                              | 2, hj => simp at hj; subst hj; exact q.c2
                                              | 3, hj => simp at hj; subst hj; exact q.c3
                                              | 4, hj => simp at hj; subst hj; exact q.c4
                                              | 5, hj => simp at hj; subst hj; exact q.c5
                                              | 6, hj => simp at hj; subst hj; exact q.c6
                                              | 7, hj => simp at hj; subst hj; exact q.c7
                                            have HTH : Hid (ws.there R 0 8) := HRs.out.th 8 (by simp)
                                            have HRx : Hid (Blk (ws.setCells R 0 [.string ⟨xi.toArray⟩, .string ⟨xf.toArray⟩, .string ⟨xt.toArray⟩, .int .i64 xa, .int .i64 xg, .int .i64 xk, .int .i64 xh, .string ⟨xc.toArray⟩]) R [.string ⟨xi.toArray⟩, .string ⟨xf.toArray⟩, .string ⟨xt.toArray⟩, .int .i64 xa, .int .i64 xg, .int .i64 xk, .int .i64 xh, .string ⟨xc.toArray⟩] 83) := ((((((((HRs.out.put 0 _).put 1 _).put 2 _).put 3 _).put 4 _).put 5 _).put 6 _).put 7 _)
                                            have HKx : Hid (Keeps w.heap.size w4 (ws.setCells R 0 [.string ⟨xi.toArray⟩, .string ⟨xf.toArray⟩, .string ⟨xt.toArray⟩, .int .i64 xa, .int .i64 xg, .int .i64 xk, .int .i64 xh, .string ⟨xc.toArray⟩])) := keeps_setCells hRw _ _ _ HKs.out
                                            clear HAT HRs HKs HOs HIs
                                            as_aux_lemma =>
                                              go_wp2_with (first | (refine wpList_load_mid rfl 83 (.tmp 126) rfl g 0 rfl [.string ⟨xi.toArray⟩, .string ⟨xf.toArray⟩, .string ⟨xt.toArray⟩, .int .i64 xa, .int .i64 xg, .int .i64 xk, .int .i64 xh, .string ⟨xc.toArray⟩] _ HRA.out Tryz.underlying83 rfl Tryz.rcdSize ?_) | (refine wpList_store_mid rfl 83 (.tmp 17) (.tmp 127) rfl R 0 #[.string ⟨xi.toArray⟩, .string ⟨xf.toArray⟩, .string ⟨xt.toArray⟩, .int .i64 xa, .int .i64 xg, .int .i64 xk, .int .i64 xh, .string ⟨xc.toArray⟩] rfl rfl HTH.out Tryz.rcdSize (by simp [Value.oneCell']) ?_; generalize World.setCells ws R 0 _ = wx at HRx HKx ⊢))
                                              go_meet
                                              exact ⟨rfl, ⟨xi, xf, xt, xa, xg, xk, xh, xc⟩, HIX.out, HRx.out, HKx.out⟩
                                        case rest =>
                                          obtain ⟨rfl, r, HRI, HRt, HKt⟩ := hcut
                                          obtain ⟨wt, rfl⟩ : ∃ x : World, x = wc := ⟨_, rfl⟩
                                          clear HRN hrl
                                          obtain ⟨ri, rf, rt, ra, rg, rk, rh, rc⟩ := r
                                          obtain ⟨n1, n2, n3, n4, -⟩ := HRI.out
                                          simp only at n1 n2 n3 n4
                                          have HCS := Lib.hid (fun W (h : Keeps w.heap.size w4 W) => costX_any W a l.length ca l (HRW.out W h) hca ⟨ri, rf, rt, ra, rg, rk, rh, rc⟩ n3 n4)
                                          have HCFT := Lib.hid (fun W (h : Keeps w.heap.size w4 W) => costFault_any W a l.length ca l (HRW.out W h) hca ⟨ri, rf, rt, ra, rg, rk, rh, rc⟩ n3 n4)
                                          have HCFO : Hid (costE l ⟨ri, rf, rt, ra, rg, rk, rh, rc⟩ = 0 → ∀ W, Keeps w.heap.size w4 W → Calls Tryz.prog 40 #[.slice a l.length ca, .agg #[.string ⟨ri.toArray⟩, .string ⟨rf.toArray⟩, .string ⟨rt.toArray⟩, .int .i64 ra, .int .i64 rg, .int .i64 rk, .int .i64 rh, .string ⟨rc.toArray⟩]] W (PriceOfPost (costR l ⟨ri, rf, rt, ra, rg, rk, rh, rc⟩) W)) := fun h0 W h => costFor_any W a l.length ca l (HRW.out W h) hca ⟨ri, rf, rt, ra, rg, rk, rh, rc⟩ n3 n4 h0
                                          have HCJ := Lib.hid (cost_join l ⟨ri, rf, rt, ra, rg, rk, rh, rc⟩)
                                          unfold CostPost at HCS
                                          generalize costE l ⟨ri, rf, rt, ra, rg, rk, rh, rc⟩ = E3 at HCS HCFO HCJ
                                          generalize costR l ⟨ri, rf, rt, ra, rg, rk, rh, rc⟩ = RR at HCS HCFO
                                          generalize costF l ⟨ri, rf, rt, ra, rg, rk, rh, rc⟩ = FF at HCFT HCJ
                                          obtain ⟨pp, hpp⟩ : ∃ pp : Int, (if E3 = 0 then RR.1 else 0) = pp := ⟨_, rfl⟩
                                          obtain ⟨bb, hbb⟩ : ∃ bb : Bool, (if E3 = 0 then RR.2 else false) = bb := ⟨_, rfl⟩
                                          rw [hpp, hbb] at HCS
                                          have HP1 : Hid (E3 = 0 → pp = RR.1 ∧ bb = RR.2) := fun h => by rw [← hpp, ← hbb, if_pos h, if_pos h]; exact ⟨rfl, rfl⟩
                                          have HP2 : Hid (E3 ≠ 0 → pp = 0 ∧ bb = false) := fun h => by rw [← hpp, ← hbb, if_neg h, if_neg h]; exact ⟨rfl, rfl⟩
                                          clear hpp hbb
                                          clear HRI n1 n2 n3 n4
                                          obtain ⟨W2, hW2⟩ : ∃ W2 : Int, (if (carrsErr l == 0) = true then FF else 0) = W2 := ⟨_, rfl⟩
                                          have HWN : Hid (∀ W, Calls Tryz.prog 15 #[.bool (carrsErr l == 0), .int .i64 FF] W fun r w' => r = .returned (.int .i64 W2) ∧ W = w') := fun W => by rw [← hW2]; exact when_l _ _ W
                                          rw [hW2] at HCJ
                                          clear hW2
                                          have HLA : Hid (wt.rangeAt R 0 [.string ⟨ri.toArray⟩, .string ⟨rf.toArray⟩, .string ⟨rt.toArray⟩, .int .i64 ra, .int .i64 rg, .int .i64 rk, .int .i64 rh, .string ⟨rc.toArray⟩]) := fun j v hj => by rw [Nat.zero_add]; exact HRt.out.cell j hj
                                          as_aux_lemma =>
                                            go_wp2_with (refine wpList_load_mid rfl 83 (.tmp 17) rfl R 0 rfl [.string ⟨ri.toArray⟩, .string ⟨rf.toArray⟩, .string ⟨rt.toArray⟩, .int .i64 ra, .int .i64 rg, .int .i64 rk, .int .i64 rh, .string ⟨rc.toArray⟩] _ HLA.out Tryz.underlying83 rfl Tryz.rcdSize ?_)
                                            refine (HCS.out _ HKt.out).mono ?_
                                            rintro e wu ⟨rfl, hb⟩
                                            have HKu : Hid (Keeps w.heap.size w4 wu) := HKt.out.trans (Keeps.of_below hb)
                                            have HRu := Lib.hid (HRt.out.below hb)
                                            clear hb HKt HRt HCS HLA
                                            have HLA : Hid (wu.rangeAt R 0 [.string ⟨ri.toArray⟩, .string ⟨rf.toArray⟩, .string ⟨rt.toArray⟩, .int .i64 ra, .int .i64 rg, .int .i64 rk, .int .i64 rh, .string ⟨rc.toArray⟩]) := fun j v hj => by rw [Nat.zero_add]; exact HRu.out.cell j hj
                                            as_aux_lemma =>
                                              go_wp2_with (refine wpList_load_mid rfl 83 (.tmp 17) rfl R 0 rfl [.string ⟨ri.toArray⟩, .string ⟨rf.toArray⟩, .string ⟨rt.toArray⟩, .int .i64 ra, .int .i64 rg, .int .i64 rk, .int .i64 rh, .string ⟨rc.toArray⟩] _ HLA.out Tryz.underlying83 rfl Tryz.rcdSize ?_)
                                              refine (HCFT.out _ HKu.out).mono ?_
                                              rintro e wv ⟨rfl, hb⟩
                                              have HKv : Hid (Keeps w.heap.size w4 wv) := HKu.out.trans (Keeps.of_below hb)
                                              have HRv := Lib.hid (HRu.out.below hb)
                                              clear hb HKu HRu HCFT HLA
                                              as_aux_lemma =>
                                                go_wp2_with fail
                                                refine (HWN.out _).mono ?_
                                                rintro e w' ⟨rfl, rfl⟩
                                                as_aux_lemma =>
                                                  go_wp2_with ((refine wpList_val rfl (bl_lof3 _ (fun _ => rfl) _ _ 135 141 ((carrsErr l)) W2 rfl rfl rfl) ?_))
                                                  refine (or_any (carrsErr l) W2 wv.heap.size _ (by simp) (by go_simp) (by go_simp)).mono ?_
                                                  rintro e w' ⟨rfl, rfl⟩
                                                  rw [HCJ.out]
                                                  have hA : Below wv.heap.size wv (wv.alloc (.cells #[.int .i64 (carrsErr l), .int .i64 W2] 38)) := ext_alloc (Below.refl _ _)
                                                  have HKw : Hid (Keeps w.heap.size w4 (wv.alloc (.cells #[.int .i64 (carrsErr l), .int .i64 W2] 38))) := HKv.out.trans (Keeps.of_below hA)
                                                  have HRw := Lib.hid (HRv.out.below hA)
                                                  clear hA HKv HRv HCJ HWN
                                                  generalize World.alloc wv _ = ww at HKw HRw ⊢
                                                  by_cases hE : E3 = 0
                                                  · obtain ⟨rfl, rfl⟩ := HP1.out hE
                                                    subst hE
                                                    have HCF2 := Lib.hid (HCFO.out rfl _ HKw.out)
                                                    clear HCFO
                                                    clear HP1 HP2
                                                    have hb1 : (RR.2 == RR.2) = true := by simp
                                                    have hb2 : (RR.1 == RR.1) = true := by simp
                                                    have HLA : Hid (ww.rangeAt R 0 [.string ⟨ri.toArray⟩, .string ⟨rf.toArray⟩, .string ⟨rt.toArray⟩, .int .i64 ra, .int .i64 rg, .int .i64 rk, .int .i64 rh, .string ⟨rc.toArray⟩]) := fun j v hj => by rw [Nat.zero_add]; exact HRw.out.cell j hj
                                                    as_aux_lemma =>
                                                      go_wp2_with (refine wpList_load_mid rfl 83 (.tmp 17) rfl R 0 rfl [.string ⟨ri.toArray⟩, .string ⟨rf.toArray⟩, .string ⟨rt.toArray⟩, .int .i64 ra, .int .i64 rg, .int .i64 rk, .int .i64 rh, .string ⟨rc.toArray⟩] _ HLA.out Tryz.underlying83 rfl Tryz.rcdSize ?_)
                                                      refine HCF2.out.mono ?_
                                                      rintro e wy ⟨rfl, hb⟩
                                                      have HKy : Hid (Keeps w.heap.size w4 wy) := HKw.out.trans (Keeps.of_below hb)
                                                      clear hb HCF2 HLA HRw HKw
                                                      as_aux_lemma =>
                                                        go_wp2_with fail
                                                        refine (carried_any _).mono ?_
                                                        rintro e wz ⟨rfl, hb⟩
                                                        have HFI := Lib.hid (HFIN.out _ (HKy.out.trans (Keeps.of_below hb)))
                                                        clear hb HKy HFIN
                                                        as_aux_lemma =>
                                                          go_wp2_with fail
                                                          go_ret
                                                          exact ⟨rfl, HFI.out⟩
                                                  · obtain ⟨rfl, rfl⟩ := HP2.out hE
                                                    have hEb : (E3 == 0) = false := by simpa using hE
                                                    clear hE HCFO HP1 HP2
                                                    skip
                                                    as_aux_lemma =>
                                                      go_wp2_with fail
                                                      refine (carried_any _).mono ?_
                                                      rintro e wz ⟨rfl, hb⟩
                                                      have HFI := Lib.hid (HFIN.out _ (HKw.out.trans (Keeps.of_below hb)))
                                                      clear hb HKw HFIN
                                                      as_aux_lemma =>
                                                        go_wp2_with fail
                                                        go_ret
                                                        exact ⟨rfl, HFI.out⟩
end Go.Proofs.YtppinnjdaoaddaaGreatDoor
