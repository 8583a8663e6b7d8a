/- What is proved here: lemmas and contracts for the statement, put together out of smaller texts (CarrChkR, CarrShrR, CarrSent, CarrMea, CarrFrac, CarrMsr, CarrMsrR, CarrMeaR, WhenL). No condition beyond those stated. -/
import Derived.Test.YtppinnjdaoaddaaGreatDoorStPkH
import Derived.Test.YtppinnjdaoaddaaGreatDoorStPkC
import Derived.Test.YtppinnjdaoaddaaGreatDoorStPkB
import Derived.Test.YtppinnjdaoaddaaGreatDoorStPkA
import Derived.Test.YtppinnjdaoaddaaGreatDoorStPkG
import Derived.Deep.MidRow
import Derived.Test.YtppinnjdaoaddaaGreatDoorStPkD
import Derived.Deep.DeepAppendWide
import Derived.Maps.AppendAt
set_option linter.unusedVariables false
set_option linter.unusedSimpArgs false
namespace Go.Proofs.YtppinnjdaoaddaaGreatDoor
open Go.RowKit

set_option maxRecDepth 100000 in
set_option maxHeartbeats 4000000 in
theorem carrFault_any (w : World) (a : Option Addr) (n cap : Nat) (l : List Carr) (hl : CarrRow w a n l) (hcap : n ≤ cap) : Calls Tryz.prog 13 #[.slice a n cap] w (ErrPost (carrsErr l) w) := by
  have hlen := hl.len
  have hfew := hl.few
  have HC := Lib.hid (carrs_cases l (by omega))
  have HR := Lib.hid hl
  clear hl
  generalize carrsErr l = R at HC ⊢
  rw [← hlen] at HC
  have HLEN := Lib.hid hlen
  clear hlen
  have hbig : ¬ (50 : Int) < n := by omega
  go_enter Tryz.func13, Tryz.ntmps13
  go_wp2_with fail
  clear hbig
  go_loopw [13] (fun it wr => ∃ k : Nat, k ≤ n ∧ it = .int .i64 k ∧ Hid (∀ j, j < k → carrErr l j = 0) ∧ Hid (Below w.heap.size w wr)) (fun it _ => n - (intOf it).toNat)
  case atStart => exact ⟨0, Nat.zero_le _, rfl, fun j hj => by omega, Below.refl _ _⟩
  case round =>
    obtain ⟨k, hk, rfl, HZ, HB⟩ := hrel
    by_cases hlt : k < n
    case neg =>
      obtain rfl : k = n := by omega
      obtain rfl : R = 0 := HC.out.2 HZ.out
      clear HC HZ
      as_aux_lemma =>
        go_wp2_with fail
        go_ret
        exact ⟨rfl, HB.out⟩
    obtain ⟨b, off, rfl, hb, hc⟩ := HR.out.at (by omega)
    have HCC := Lib.hid hc
    obtain ⟨q0, q1, q2⟩ := hc k hlt
    have c0 := (HB.out.cell (p := ⟨b, off + k * 3, none⟩) hb).trans q0
    have c1 := (HB.out.cell (p := ⟨b, off + k * 3 + 1, none⟩) hb).trans q1
    have c2 := (HB.out.cell (p := ⟨b, off + k * 3 + 2, none⟩) hb).trans q2
    have HFI := Lib.hid (HR.out.each k (by rw [← HLEN.out]; exact hlt))
    have HER : Hid (carrErr l k = if isKeyB (l.getD k noCarr).key = false then 5
      else if 0 < k ∧ Op.bytesLess (l.getD (k - 1) noCarr).key (l.getD k noCarr).key = false then 7
      else if inB (l.getD k noCarr).lines 1 100000 = false then 1
      else if 20 < (l.getD k noCarr).decks.length then 2
      else firstErr (deckAtErr (l.getD k noCarr).decks) (l.getD k noCarr).decks.length) := rfl
    have HSTOP := Lib.hid (HC.out.1 k hlt HZ.out)
    have HNX : Hid (carrErr l k = 0 → ∀ j, j < k + 1 → carrErr l j = 0) := fun h j hj => by
      rcases Nat.lt_succ_iff_lt_or_eq.1 hj with h9 | rfl
      · exact HZ.out j h9
      · exact h
    have HPV : Hid (0 < k → w.cell? ⟨b, off + (k - 1) * 3, none⟩ = some (.string ⟨(l.getD (k - 1) noCarr).key.toArray⟩)) := fun h => (HCC.out (k - 1) (by omega)).1
    clear q0 q1 q2 hc HZ HCC HC
    generalize carrErr l k = X at HER HSTOP HNX
    generalize l.getD k noCarr = c at c0 c1 c2 HFI HER
    generalize l.getD (k - 1) noCarr = q at HER HPV
    obtain ⟨ck, cl, da, dn, dc, dk⟩ := c
    obtain ⟨qk, ql, qa, qn, qc, qd⟩ := q
    have HDR : Hid (DeckRow w da dn dk) := HFI.out.row
    have hdl : dn = dk.length := HFI.out.row.len
    have hdf : dn ≤ 100 := HFI.out.row.few
    have hdc : dn ≤ dc := HFI.out.cap
    have hkl : ck.length ≤ 100 := HFI.out.key
    have hli : -2000000000000 ≤ cl ∧ cl ≤ 2000000000000 := HFI.out.b1
    have HDL := Lib.hid hdl
    simp only at c0 c1 c2 HER HPV
    rw [← hdl] at HER
    clear HFI hdl
    as_aux_lemma =>
      go_wp2_with fail
      refine (keyR_any ck _ (by omega)).mono ?_
      rintro e w3 ⟨rfl, hb3⟩
      obtain ⟨qc9, qf⟩ := bcell hb3
      have hz3 : wr.heap.size < w3.heap.size := by have := hb3.size; simp at this; omega
      have e0 : w3.cell? ⟨wr.heap.size, 0, none⟩ = some (.string ⟨ck.toArray⟩) := (qc9 _ 0 (by simp)).trans (by go_simp)
      have e1 : w3.cell? ⟨wr.heap.size, 1, none⟩ = some (.int .i64 cl) := (qc9 _ 1 (by simp)).trans (by go_simp)
      have e2 : w3.cell? ⟨wr.heap.size, 2, none⟩ = some (.slice da dn dc) := (qc9 _ 2 (by simp)).trans (by go_simp)
      have HB3 : Hid (Below w.heap.size w w3) := ext_trans (ext_alloc HB.out) hb3
      have hTw : w.heap.size ≤ wr.heap.size := HB.out.size
      generalize wr.heap.size = T at e0 e1 e2 hz3 hTw ⊢
      clear qc9 qf hb3 c0 c1 c2 HB
      generalize isKeyB ck = g1 at HER ⊢
      cases g1
      · obtain rfl : X = 5 := by rw [HER.out, if_pos rfl]
        obtain rfl : R = 5 := HSTOP.out (by decide)
        clear HER HSTOP HNX HPV
        skip
        as_aux_lemma =>
          go_wp2_with fail
          go_ret
          exact ⟨rfl, HB3.out⟩
      have HER1 : Hid (X = if 0 < k ∧ Op.bytesLess qk ck = false then 7
        else if inB cl 1 100000 = false then 1
        else if 20 < dn then 2
        else firstErr (deckAtErr dk) dn) := by show _ = _; rw [HER.out, if_neg (by decide)]
      clear HER
      by_cases hk0 : k = 0
      · subst hk0
        have HER2 : Hid (X = if inB cl 1 100000 = false then 1
          else if 20 < dn then 2
          else firstErr (deckAtErr dk) dn) := by show _ = _; rw [HER1.out, if_neg (fun h => by omega)]
        clear HER1 HPV
        skip
        as_aux_lemma =>
          go_wp2_with fail
          go_quiet (fail)
          go_wp2_with fail
          refine (in_same cl 1 100000 _).mono ?_
          rintro e w4 ⟨rfl, rfl⟩
          have HB3d : Hid (Below w.heap.size w (World.drewN w3 nq)) := ext_drewN HB3.out
          generalize inB cl 1 100000 = g2 at HER2 ⊢
          cases g2
          · obtain rfl : X = 1 := by rw [HER2.out, if_pos rfl]
            obtain rfl : R = 1 := HSTOP.out (by decide)
            clear HER2 HSTOP HNX
            skip
            as_aux_lemma =>
              go_wp2_with fail
              go_ret
              exact ⟨rfl, HB3d.out⟩
          by_cases hd20 : 20 < dn
          · obtain rfl : X = 2 := by rw [HER2.out, if_neg (by decide), if_pos hd20]
            obtain rfl : R = 2 := HSTOP.out (by decide)
            have hdI : (20 : Int) < dn := by omega
            clear HER2 HSTOP HNX
            skip
            as_aux_lemma =>
              go_wp2_with fail
              go_ret
              exact ⟨rfl, HB3d.out⟩
          have HER3 : Hid (X = firstErr (deckAtErr dk) dn) := by show _ = _; rw [HER2.out, if_neg (by decide), if_neg hd20]
          have hdI : ¬ (20 : Int) < dn := by omega
          clear HER2
          skip
          as_aux_lemma =>
            go_wp2_with fail
            clear hdI
            have HDR3 := Lib.hid (HDR.out.below HB3.out)
            obtain ⟨wo, rfl⟩ : ∃ wo : World, wo = w3 := ⟨_, rfl⟩
            go_loopw [50] (fun it wr => ∃ i : Nat, i ≤ dn ∧ it = .int .i64 i ∧ Hid (∀ j, j < i → deckAtErr dk j = 0) ∧ Hid (Below wo.heap.size wo wr)) (fun it _ => dn - (intOf it).toNat)
            case atStart => exact ⟨0, Nat.zero_le _, rfl, fun j hj => by omega, ext_drewN (Below.refl _ _)⟩
            case round =>
              obtain ⟨i, hi, rfl, HZ, HB⟩ := hrel
              by_cases hlt2 : i < dn
              case neg =>
                obtain rfl : i = dn := by omega
                have HZ2 := Lib.hid (HNX.out (by rw [HER3.out]; exact first_none HZ.out))
                have HBn := Lib.hid (ext_trans HB3.out HB.out)
                clear HER3 HNX HSTOP HZ
                skip
                as_aux_lemma =>
                  go_wp2_with fail
                  go_roundw
                  case rel => exact ⟨0 + 1, by omega, by go_num, HZ2.out, HBn.out⟩
                  case measure => simp [intOf]; omega
              obtain ⟨b2, off2, rfl, hb2, hc⟩ := HDR3.out.at (by omega)
              have HCC := Lib.hid hc
              obtain ⟨q0, q1, q2, q3, q4⟩ := hc i hlt2
              have c0 := (HB.out.cell (p := ⟨b2, off2 + i * 5, none⟩) hb2).trans q0
              have c1 := (HB.out.cell (p := ⟨b2, off2 + i * 5 + 1, none⟩) hb2).trans q1
              have c2 := (HB.out.cell (p := ⟨b2, off2 + i * 5 + 2, none⟩) hb2).trans q2
              have c3 := (HB.out.cell (p := ⟨b2, off2 + i * 5 + 3, none⟩) hb2).trans q3
              have c4 := (HB.out.cell (p := ⟨b2, off2 + i * 5 + 4, none⟩) hb2).trans q4
              have d2 := (HB.out.cell (p := ⟨T, 2, none⟩) hz3).trans e2
              have HFI : Hid (DeckFine wr (dk.getD i noDeck)) := (HDR3.out.each i (by rw [← HDL.out]; exact hlt2)).below HB.out
              have HEI : Hid (deckAtErr dk i = if deckErr (dk.getD i noDeck) ≠ 0 then deckErr (dk.getD i noDeck) else if 0 < i ∧ (dk.getD i noDeck).from_ ≤ (dk.getD (i - 1) noDeck).from_ then 7 else 0) := rfl
              have HST : Hid (deckAtErr dk i ≠ 0 → R = deckAtErr dk i) := fun h => by
                have h9 := first_some (f := deckAtErr dk) HZ.out hlt2 h
                rw [HSTOP.out (by rw [HER3.out, h9]; exact h), HER3.out, h9]
              have HNI : Hid (deckAtErr dk i = 0 → ∀ j, j < i + 1 → deckAtErr dk j = 0) := fun h j hj => by
                rcases Nat.lt_succ_iff_lt_or_eq.1 hj with h9 | rfl
                · exact HZ.out j h9
                · exact h
              have HPI : Hid (0 < i → wo.cell? ⟨b2, off2 + (i - 1) * 5, none⟩ = some (.int .i64 (dk.getD (i - 1) noDeck).from_)) := fun h => (HCC.out (i - 1) (by omega)).1
              clear q0 q1 q2 q3 q4 hc HCC HZ
              generalize deckAtErr dk i = Y at HEI HST HNI
              generalize dk.getD i noDeck = d at c0 c1 c2 c3 c4 HFI HEI
              generalize dk.getD (i - 1) noDeck = y at HEI HPI
              obtain ⟨df, ds, dl, dp, ra, rn, rc, rates⟩ := d
              obtain ⟨yf, ys, yl, yp, ya, yn, yc, yrates⟩ := y
              simp only at c0 c1 c2 c3 c4 HEI HPI
              have HDV : Hid (∀ W, DeckFine W ⟨df, ds, dl, dp, ra, rn, rc, rates⟩ → Calls Tryz.prog 57 #[.agg #[.int .i64 df, .int .i64 ds, .int .i64 dl, .int .i64 dp, .slice ra rn rc]] W (ErrPost (deckErr ⟨df, ds, dl, dp, ra, rn, rc, rates⟩) W)) := fun W h => deckFault_any W _ h
              generalize deckErr ⟨df, ds, dl, dp, ra, rn, rc, rates⟩ = E at HEI HDV
              as_aux_lemma =>
                go_wp2_with fail
                refine (HDV.out _ (HFI.out.below (ext_alloc (Below.refl _ _)))).mono ?_
                rintro e w5 ⟨rfl, hb5⟩
                obtain ⟨qc9, qf⟩ := bcell hb5
                have hz5 : wr.heap.size < w5.heap.size := by have := hb5.size; simp at this; omega
                have f0 : w5.cell? ⟨wr.heap.size, 0, none⟩ = some (.int .i64 df) := (qc9 _ 0 (by simp)).trans (by go_simp)
                have HB5 : Hid (Below wo.heap.size wo w5) := ext_trans (ext_alloc HB.out) hb5
                have HBn := Lib.hid (ext_trans HB3.out HB5.out)
                have d2 := (HB5.out.cell (p := ⟨T, 2, none⟩) hz3).trans e2
                generalize wr.heap.size = T2 at f0 hz5 ⊢
                clear qc9 qf hb5 c0 c1 c2 c3 c4 HDV HFI
                by_cases hE : E = 0
                case neg =>
                  have hEb : (E != 0) = true := by simp [hE]
                  obtain rfl : Y = E := by rw [HEI.out, if_pos hE]
                  obtain rfl : R = Y := HST.out hE
                  clear HEI HST HNI HPI HNX HSTOP HER3
                  skip
                  as_aux_lemma =>
                    go_wp2_with fail
                    go_ret
                    exact ⟨rfl, HBn.out⟩
                subst hE
                have HEI1 : Hid (Y = if 0 < i ∧ df ≤ yf then 7 else 0) := by show _ = _; rw [HEI.out, if_neg (by simp)]
                clear HEI
                by_cases hi0 : i = 0
                · subst hi0
                  have HZ2 := Lib.hid (HNI.out (by rw [HEI1.out, if_neg (fun h => by omega)]))
                  clear HEI1 HNI HST HPI
                  skip
                  as_aux_lemma =>
                    go_wp2_with fail
                    go_quiet (fail)
                    go_wp2_with fail
                    go_roundw
                    case rel => exact ⟨1, by omega, by go_num, HZ2.out, ext_drewN HB5.out⟩
                    case measure => simp [intOf]; omega
                obtain ⟨v, rfl⟩ : ∃ v, i = v + 1 := ⟨i - 1, by omega⟩
                have p0 := HPI.out (by omega)
                rw [Nat.add_sub_cancel] at p0
                have g0 := (HB5.out.cell (p := ⟨b2, off2 + v * 5, none⟩) hb2).trans p0
                have w1 : IntKind.i64.wrap (v : Int) = v := IntWalk.i64_in _ (by omega)
                have w2 : IntKind.i64.wrap ((v : Int) + 1 - 1) = v := by rw [Int.add_sub_cancel]; exact w1
                have w3' : (v : Int) < dn := by omega
                have w4 : (0 : Int) ≤ (v : Int) := by omega
                clear HPI p0 hi0
                by_cases hff : df ≤ yf
                · obtain rfl : Y = 7 := by rw [HEI1.out, if_pos ⟨by omega, hff⟩]
                  obtain rfl : R = 7 := HST.out (by decide)
                  have hfd : decide (df ≤ yf) = true := decide_eq_true hff
                  clear HEI1 HST HNI HNX HSTOP HER3
                  skip
                  as_aux_lemma =>
                    go_wp2_with fail
                    go_quiet (fail)
                    go_wp2_with fail
                    go_ret
                    exact ⟨rfl, ext_drewN HBn.out⟩
                have hfd : decide (df ≤ yf) = false := decide_eq_false hff
                have HZ2 := Lib.hid (HNI.out (by rw [HEI1.out, if_neg (fun h => hff h.2)]))
                clear HEI1 HNI HST
                skip
                as_aux_lemma =>
                  go_wp2_with fail
                  go_quiet (fail)
                  go_wp2_with fail
                  go_roundw
                  case rel => exact ⟨v + 1 + 1, by omega, by go_num, HZ2.out, ext_drewN HB5.out⟩
                  case measure => simp [intOf]; omega
      obtain ⟨j, rfl⟩ : ∃ j, k = j + 1 := ⟨k - 1, by omega⟩
      have p0 := HPV.out (by omega)
      rw [Nat.add_sub_cancel] at p0
      have g0 := (HB3.out.cell (p := ⟨b, off + j * 3, none⟩) hb).trans p0
      have w1 : IntKind.i64.wrap (j : Int) = j := IntWalk.i64_in _ (by omega)
      have w2 : IntKind.i64.wrap ((j : Int) + 1 - 1) = j := by rw [Int.add_sub_cancel]; exact w1
      have w3' : (j : Int) < n := by omega
      have w4 : (0 : Int) ≤ (j : Int) := by omega
      clear HPV p0 hk0
      cases hls : Op.bytesLess qk ck
      · obtain rfl : X = 7 := by rw [HER1.out, if_pos ⟨by omega, hls⟩]
        obtain rfl : R = 7 := HSTOP.out (by decide)
        clear HER1 HSTOP HNX
        by_cases hxe : ck = qk
        · subst hxe
          skip
          as_aux_lemma =>
            go_wp2_with fail
            go_quiet (fail)
            go_wp2_with fail
            go_ret
            exact ⟨rfl, ext_drewN HB3.out⟩
        · have hx1 : Op.bytesLess ck qk = true := less_total qk ck hls (Ne.symm hxe)
          skip
          as_aux_lemma =>
            go_wp2_with fail
            go_quiet (fail)
            go_wp2_with fail
            go_ret
            exact ⟨rfl, ext_drewN HB3.out⟩
      have HER2 : Hid (X = if inB cl 1 100000 = false then 1
        else if 20 < dn then 2
        else firstErr (deckAtErr dk) dn) := by show _ = _; rw [HER1.out, if_neg (fun h => by rw [hls] at h; cases h.2)]
      obtain ⟨hx1, hx2⟩ := less_asym hls
      have hx3 : (ck == qk) = false := beq_eq_false_iff_ne.2 (fun e => hx2 e.symm)
      clear HER1 hx2
      skip
      as_aux_lemma =>
        go_wp2_with fail
        go_quiet (fail)
        go_wp2_with fail
        refine (in_same cl 1 100000 _).mono ?_
        rintro e w4 ⟨rfl, rfl⟩
        have HB3d : Hid (Below w.heap.size w (World.drewN w3 nq)) := ext_drewN HB3.out
        generalize inB cl 1 100000 = g2 at HER2 ⊢
        cases g2
        · obtain rfl : X = 1 := by rw [HER2.out, if_pos rfl]
          obtain rfl : R = 1 := HSTOP.out (by decide)
          clear HER2 HSTOP HNX
          skip
          as_aux_lemma =>
            go_wp2_with fail
            go_ret
            exact ⟨rfl, HB3d.out⟩
        by_cases hd20 : 20 < dn
        · obtain rfl : X = 2 := by rw [HER2.out, if_neg (by decide), if_pos hd20]
          obtain rfl : R = 2 := HSTOP.out (by decide)
          have hdI : (20 : Int) < dn := by omega
          clear HER2 HSTOP HNX
          skip
          as_aux_lemma =>
            go_wp2_with fail
            go_ret
            exact ⟨rfl, HB3d.out⟩
        have HER3 : Hid (X = firstErr (deckAtErr dk) dn) := by show _ = _; rw [HER2.out, if_neg (by decide), if_neg hd20]
        have hdI : ¬ (20 : Int) < dn := by omega
        clear HER2
        skip
        as_aux_lemma =>
          go_wp2_with fail
          clear hdI
          have HDR3 := Lib.hid (HDR.out.below HB3.out)
          obtain ⟨wo, rfl⟩ : ∃ wo : World, wo = w3 := ⟨_, rfl⟩
          go_loopw [50] (fun it wr => ∃ i : Nat, i ≤ dn ∧ it = .int .i64 i ∧ Hid (∀ j, j < i → deckAtErr dk j = 0) ∧ Hid (Below wo.heap.size wo wr)) (fun it _ => dn - (intOf it).toNat)
          case atStart => exact ⟨0, Nat.zero_le _, rfl, fun j hj => by omega, ext_drewN (Below.refl _ _)⟩
          case round =>
            obtain ⟨i, hi, rfl, HZ, HB⟩ := hrel
            by_cases hlt2 : i < dn
            case neg =>
              obtain rfl : i = dn := by omega
              have HZ2 := Lib.hid (HNX.out (by rw [HER3.out]; exact first_none HZ.out))
              have HBn := Lib.hid (ext_trans HB3.out HB.out)
              clear HER3 HNX HSTOP HZ
              skip
              as_aux_lemma =>
                go_wp2_with fail
                go_roundw
                case rel => exact ⟨j + 1 + 1, by omega, by go_num, HZ2.out, HBn.out⟩
                case measure => simp [intOf]; omega
            obtain ⟨b2, off2, rfl, hb2, hc⟩ := HDR3.out.at (by omega)
            have HCC := Lib.hid hc
            obtain ⟨q0, q1, q2, q3, q4⟩ := hc i hlt2
            have c0 := (HB.out.cell (p := ⟨b2, off2 + i * 5, none⟩) hb2).trans q0
            have c1 := (HB.out.cell (p := ⟨b2, off2 + i * 5 + 1, none⟩) hb2).trans q1
            have c2 := (HB.out.cell (p := ⟨b2, off2 + i * 5 + 2, none⟩) hb2).trans q2
            have c3 := (HB.out.cell (p := ⟨b2, off2 + i * 5 + 3, none⟩) hb2).trans q3
            have c4 := (HB.out.cell (p := ⟨b2, off2 + i * 5 + 4, none⟩) hb2).trans q4
            have d2 := (HB.out.cell (p := ⟨T, 2, none⟩) hz3).trans e2
            have HFI : Hid (DeckFine wr (dk.getD i noDeck)) := (HDR3.out.each i (by rw [← HDL.out]; exact hlt2)).below HB.out
            have HEI : Hid (deckAtErr dk i = if deckErr (dk.getD i noDeck) ≠ 0 then deckErr (dk.getD i noDeck) else if 0 < i ∧ (dk.getD i noDeck).from_ ≤ (dk.getD (i - 1) noDeck).from_ then 7 else 0) := rfl
            have HST : Hid (deckAtErr dk i ≠ 0 → R = deckAtErr dk i) := fun h => by
              have h9 := first_some (f := deckAtErr dk) HZ.out hlt2 h
              rw [HSTOP.out (by rw [HER3.out, h9]; exact h), HER3.out, h9]
            have HNI : Hid (deckAtErr dk i = 0 → ∀ j, j < i + 1 → deckAtErr dk j = 0) := fun h j hj => by
              rcases Nat.lt_succ_iff_lt_or_eq.1 hj with h9 | rfl
              · exact HZ.out j h9
              · exact h
            have HPI : Hid (0 < i → wo.cell? ⟨b2, off2 + (i - 1) * 5, none⟩ = some (.int .i64 (dk.getD (i - 1) noDeck).from_)) := fun h => (HCC.out (i - 1) (by omega)).1
            clear q0 q1 q2 q3 q4 hc HCC HZ
            generalize deckAtErr dk i = Y at HEI HST HNI
            generalize dk.getD i noDeck = d at c0 c1 c2 c3 c4 HFI HEI
            generalize dk.getD (i - 1) noDeck = y at HEI HPI
            obtain ⟨df, ds, dl, dp, ra, rn, rc, rates⟩ := d
            obtain ⟨yf, ys, yl, yp, ya, yn, yc, yrates⟩ := y
            simp only at c0 c1 c2 c3 c4 HEI HPI
            have HDV : Hid (∀ W, DeckFine W ⟨df, ds, dl, dp, ra, rn, rc, rates⟩ → Calls Tryz.prog 57 #[.agg #[.int .i64 df, .int .i64 ds, .int .i64 dl, .int .i64 dp, .slice ra rn rc]] W (ErrPost (deckErr ⟨df, ds, dl, dp, ra, rn, rc, rates⟩) W)) := fun W h => deckFault_any W _ h
            generalize deckErr ⟨df, ds, dl, dp, ra, rn, rc, rates⟩ = E at HEI HDV
            as_aux_lemma =>
              go_wp2_with fail
              refine (HDV.out _ (HFI.out.below (ext_alloc (Below.refl _ _)))).mono ?_
              rintro e w5 ⟨rfl, hb5⟩
              obtain ⟨qc9, qf⟩ := bcell hb5
              have hz5 : wr.heap.size < w5.heap.size := by have := hb5.size; simp at this; omega
              have f0 : w5.cell? ⟨wr.heap.size, 0, none⟩ = some (.int .i64 df) := (qc9 _ 0 (by simp)).trans (by go_simp)
              have HB5 : Hid (Below wo.heap.size wo w5) := ext_trans (ext_alloc HB.out) hb5
              have HBn := Lib.hid (ext_trans HB3.out HB5.out)
              have d2 := (HB5.out.cell (p := ⟨T, 2, none⟩) hz3).trans e2
              generalize wr.heap.size = T2 at f0 hz5 ⊢
              clear qc9 qf hb5 c0 c1 c2 c3 c4 HDV HFI
              by_cases hE : E = 0
              case neg =>
                have hEb : (E != 0) = true := by simp [hE]
                obtain rfl : Y = E := by rw [HEI.out, if_pos hE]
                obtain rfl : R = Y := HST.out hE
                clear HEI HST HNI HPI HNX HSTOP HER3
                skip
                as_aux_lemma =>
                  go_wp2_with fail
                  go_ret
                  exact ⟨rfl, HBn.out⟩
              subst hE
              have HEI1 : Hid (Y = if 0 < i ∧ df ≤ yf then 7 else 0) := by show _ = _; rw [HEI.out, if_neg (by simp)]
              clear HEI
              by_cases hi0 : i = 0
              · subst hi0
                have HZ2 := Lib.hid (HNI.out (by rw [HEI1.out, if_neg (fun h => by omega)]))
                clear HEI1 HNI HST HPI
                skip
                as_aux_lemma =>
                  go_wp2_with fail
                  go_quiet (fail)
                  go_wp2_with fail
                  go_roundw
                  case rel => exact ⟨1, by omega, by go_num, HZ2.out, ext_drewN HB5.out⟩
                  case measure => simp [intOf]; omega
              obtain ⟨v, rfl⟩ : ∃ v, i = v + 1 := ⟨i - 1, by omega⟩
              have p0 := HPI.out (by omega)
              rw [Nat.add_sub_cancel] at p0
              have g0 := (HB5.out.cell (p := ⟨b2, off2 + v * 5, none⟩) hb2).trans p0
              have w1 : IntKind.i64.wrap (v : Int) = v := IntWalk.i64_in _ (by omega)
              have w2 : IntKind.i64.wrap ((v : Int) + 1 - 1) = v := by rw [Int.add_sub_cancel]; exact w1
              have w3' : (v : Int) < dn := by omega
              have w4 : (0 : Int) ≤ (v : Int) := by omega
              clear HPI p0 hi0
              by_cases hff : df ≤ yf
              · obtain rfl : Y = 7 := by rw [HEI1.out, if_pos ⟨by omega, hff⟩]
                obtain rfl : R = 7 := HST.out (by decide)
                have hfd : decide (df ≤ yf) = true := decide_eq_true hff
                clear HEI1 HST HNI HNX HSTOP HER3
                skip
                as_aux_lemma =>
                  go_wp2_with fail
                  go_quiet (fail)
                  go_wp2_with fail
                  go_ret
                  exact ⟨rfl, ext_drewN HBn.out⟩
              have hfd : decide (df ≤ yf) = false := decide_eq_false hff
              have HZ2 := Lib.hid (HNI.out (by rw [HEI1.out, if_neg (fun h => hff h.2)]))
              clear HEI1 HNI HST
              skip
              as_aux_lemma =>
                go_wp2_with fail
                go_quiet (fail)
                go_wp2_with fail
                go_roundw
                case rel => exact ⟨v + 1 + 1, by omega, by go_num, HZ2.out, ext_drewN HB5.out⟩
                case measure => simp [intOf]; omega
end Go.Proofs.YtppinnjdaoaddaaGreatDoor

set_option linter.unusedVariables false
set_option linter.unusedSimpArgs false
namespace Go.Proofs.YtppinnjdaoaddaaGreatDoor
open Go.RowKit

set_option maxRecDepth 100000 in
set_option maxHeartbeats 4000000 in
theorem shrFault_any (w : World) (a : Option Addr) (n cap : Nat) (l : List Carr) (hl : CarrRow w a n l) (hcap : n ≤ cap) (a2 : Option Addr) (m cap2 : Nat) (s : List Shr) (hs : ShrRow w a2 m s) (hcap2 : m ≤ cap2) : Calls Tryz.prog 16 #[.slice a n cap, .slice a2 m cap2] w (ErrPost (sharesErr l s) w) := by
  have hlen := hs.len
  have hfew := hs.few
  have HCR := Lib.hid hl
  have HSR := Lib.hid hs
  have HSC := Lib.hid ((shares_cases l s).2 (by omega))
  clear hl hs
  generalize sharesErr l s = R at HSC ⊢
  rw [← hlen] at HSC
  have HLEN := Lib.hid hlen
  clear hlen
  have hbig : ¬ (50 : Int) < m := by omega
  go_enter Tryz.func16, Tryz.ntmps16
  go_wp2_with fail
  clear hbig
  go_loopw [5, 13] (fun sm it wr => ∃ k : Nat, k ≤ m ∧ sm = .int .i64 (partSum s k) ∧ it = .int .i64 k ∧ Hid (∀ j, j < k → shareErr l s j = 0) ∧ Hid (Below w.heap.size w wr)) (fun _ it _ => m - (intOf it).toNat)
  case atStart => exact ⟨0, Nat.zero_le _, rfl, rfl, fun j hj => by omega, Below.refl _ _⟩
  case round =>
    obtain ⟨k, hk, rfl, rfl, HZ, HB⟩ := hrel
    obtain ⟨hP0, hP1⟩ := part_bound k HZ.out
    by_cases hlt : k < m
    case neg =>
      obtain rfl : k = m := by omega
      have HE := Lib.hid (HSC.out.2 HZ.out)
      clear HSC HZ
      generalize partSum s k = P at HE hP0 hP1 ⊢
      by_cases hp : P = 1000
      · obtain rfl : R = 0 := by rw [HE.out, if_neg (by simp [hp])]
        subst hp
        clear HE
        as_aux_lemma =>
          go_wp2_with fail
          go_ret
          exact ⟨rfl, HB.out⟩
      · obtain rfl : R = 16 := by rw [HE.out, if_pos hp]
        have hpb : (P != 1000) = true := by simp [hp]
        clear HE
        as_aux_lemma =>
          go_wp2_with fail
          go_ret
          exact ⟨rfl, HB.out⟩
    obtain ⟨b, off, rfl, hb, hc⟩ := HSR.out.at (by omega)
    have HCC := Lib.hid hc
    obtain ⟨q0, q1⟩ := hc k hlt
    have c0 := (HB.out.cell (p := ⟨b, off + k * 2, none⟩) hb).trans q0
    have c1 := (HB.out.cell (p := ⟨b, off + k * 2 + 1, none⟩) hb).trans q1
    obtain ⟨hcl, hp1, hp2⟩ := HSR.out.each k (by rw [← HLEN.out]; exact hlt)
    have HER : Hid (shareErr l s k = if hasC l (s.getD k noShr).c = false then 8
      else if 0 < k ∧ Op.bytesLess (s.getD (k - 1) noShr).c (s.getD k noShr).c = false then 7
      else if inB (s.getD k noShr).part 1 1000 = false then 1
      else 0) := rfl
    have HPS : Hid (partSum s (k + 1) = partSum s k + (s.getD k noShr).part) := rfl
    have HSTOP := Lib.hid (HSC.out.1 k hlt HZ.out)
    have HNX : Hid (shareErr l s k = 0 → ∀ j, j < k + 1 → shareErr l s j = 0) := fun h j hj => by
      rcases Nat.lt_succ_iff_lt_or_eq.1 hj with h9 | rfl
      · exact HZ.out j h9
      · exact h
    have HPV : Hid (0 < k → w.cell? ⟨b, off + (k - 1) * 2, none⟩ = some (.string ⟨(s.getD (k - 1) noShr).c.toArray⟩)) := fun h => (HCC.out (k - 1) (by omega)).1
    clear q0 q1 hc HZ HCC HSC
    generalize shareErr l s k = X at HER HSTOP HNX
    generalize s.getD k noShr = c at c0 c1 hcl hp1 hp2 HER HPS
    generalize s.getD (k - 1) noShr = q at HER HPV
    obtain ⟨cc, cp⟩ := c
    obtain ⟨qk, qp⟩ := q
    simp only at c0 c1 hcl hp1 hp2 HER HPS HPV
    generalize partSum s k = P at HPS hP0 hP1 ⊢
    have HID : Hid (idxC l cc < 0 ↔ hasC l cc = false) := idxC_neg
    have HFD : Hid (∀ W a n cap, CarrRow W a n l → Calls Tryz.prog 30 #[.slice a n cap, .string ⟨cc.toArray⟩] W fun e w' => e = .returned (.int .i64 (idxC l cc)) ∧ Below W.heap.size W w') := fun W a n cap h => carrAt_any W a n cap l h cc
    generalize idxC l cc = D at HID HFD
    generalize hasC l cc = g1 at HID HER
    as_aux_lemma =>
      go_wp2_with fail
      refine (HFD.out _ a n cap (HCR.out.below (ext_alloc HB.out))).mono ?_
      rintro e w3 ⟨rfl, hb3⟩
      obtain ⟨qc9, qf⟩ := bcell hb3
      have hz3 : wr.heap.size < w3.heap.size := by have := hb3.size; simp at this; omega
      have e0 : w3.cell? ⟨wr.heap.size, 0, none⟩ = some (.string ⟨cc.toArray⟩) := (qc9 _ 0 (by simp)).trans (by go_simp)
      have e1 : w3.cell? ⟨wr.heap.size, 1, none⟩ = some (.int .i64 cp) := (qc9 _ 1 (by simp)).trans (by go_simp)
      have HB3 : Hid (Below w.heap.size w w3) := ext_trans (ext_alloc HB.out) hb3
      generalize wr.heap.size = T at e0 e1 hz3 ⊢
      clear qc9 qf hb3 c0 c1 HB HFD
      by_cases hD : D < 0
      · obtain rfl : X = 8 := by rw [HER.out, if_pos (HID.out.1 hD)]
        obtain rfl : R = 8 := HSTOP.out (by decide)
        clear HER HSTOP HNX HPV HID HPS
        skip
        as_aux_lemma =>
          go_wp2_with fail
          go_ret
          exact ⟨rfl, HB3.out⟩
      have HER1 : Hid (X = if 0 < k ∧ Op.bytesLess qk cc = false then 7
        else if inB cp 1 1000 = false then 1
        else 0) := by show _ = _; rw [HER.out, if_neg (fun h => hD (HID.out.2 h))]
      clear HER HID
      by_cases hk0 : k = 0
      · subst hk0
        have HER2 : Hid (X = if inB cp 1 1000 = false then 1
          else 0) := by show _ = _; rw [HER1.out, if_neg (fun h => by omega)]
        clear HER1 HPV
        skip
        as_aux_lemma =>
          go_wp2_with fail
          go_quiet (fail)
          go_wp2_with fail
          refine (in_same cp 1 1000 _).mono ?_
          rintro e w4 ⟨rfl, rfl⟩
          have HB3d : Hid (Below w.heap.size w (World.drewN w3 nq)) := ext_drewN HB3.out
          generalize inB cp 1 1000 = g2 at HER2 ⊢
          cases g2
          · obtain rfl : X = 1 := by rw [HER2.out, if_pos rfl]
            obtain rfl : R = 1 := HSTOP.out (by decide)
            clear HER2 HSTOP HNX HPS
            skip
            as_aux_lemma =>
              go_wp2_with fail
              go_ret
              exact ⟨rfl, HB3d.out⟩
          have HZ2 := Lib.hid (HNX.out (by rw [HER2.out, if_neg (by decide)]))
          have wp : IntKind.i64.wrap (P + cp) = P + cp := IntWalk.i64_in _ (by omega)
          clear HER2 HSTOP HNX
          skip
          as_aux_lemma =>
            go_wp2_with fail
            go_roundw
            case rel => exact ⟨0 + 1, by omega, by rw [HPS.out], by go_num, HZ2.out, HB3d.out⟩
            case measure => simp [intOf]; omega
      obtain ⟨j, rfl⟩ : ∃ j, k = j + 1 := ⟨k - 1, by omega⟩
      have p0 := HPV.out (by omega)
      rw [Nat.add_sub_cancel] at p0
      have g0 := (HB3.out.cell (p := ⟨b, off + j * 2, none⟩) hb).trans p0
      have w1 : IntKind.i64.wrap (j : Int) = j := IntWalk.i64_in _ (by omega)
      have w2 : IntKind.i64.wrap ((j : Int) + 1 - 1) = j := by rw [Int.add_sub_cancel]; exact w1
      have w3' : (j : Int) < m := by omega
      have w4 : (0 : Int) ≤ (j : Int) := by omega
      clear HPV p0 hk0
      cases hls : Op.bytesLess qk cc
      · obtain rfl : X = 7 := by rw [HER1.out, if_pos ⟨by omega, hls⟩]
        obtain rfl : R = 7 := HSTOP.out (by decide)
        clear HER1 HSTOP HNX HPS
        by_cases hxe : cc = qk
        · subst hxe
          skip
          as_aux_lemma =>
            go_wp2_with fail
            go_quiet (fail)
            go_wp2_with fail
            go_ret
            exact ⟨rfl, ext_drewN HB3.out⟩
        · have hx1 : Op.bytesLess cc qk = true := less_total qk cc hls (Ne.symm hxe)
          skip
          as_aux_lemma =>
            go_wp2_with fail
            go_quiet (fail)
            go_wp2_with fail
            go_ret
            exact ⟨rfl, ext_drewN HB3.out⟩
      have HER2 : Hid (X = if inB cp 1 1000 = false then 1
        else 0) := by show _ = _; rw [HER1.out, if_neg (fun h => by rw [hls] at h; cases h.2)]
      obtain ⟨hx1, hx2⟩ := less_asym hls
      have hx3 : (cc == qk) = false := beq_eq_false_iff_ne.2 (fun e => hx2 e.symm)
      clear HER1 hx2
      skip
      as_aux_lemma =>
        go_wp2_with fail
        go_quiet (fail)
        go_wp2_with fail
        refine (in_same cp 1 1000 _).mono ?_
        rintro e w4 ⟨rfl, rfl⟩
        have HB3d : Hid (Below w.heap.size w (World.drewN w3 nq)) := ext_drewN HB3.out
        generalize inB cp 1 1000 = g2 at HER2 ⊢
        cases g2
        · obtain rfl : X = 1 := by rw [HER2.out, if_pos rfl]
          obtain rfl : R = 1 := HSTOP.out (by decide)
          clear HER2 HSTOP HNX HPS
          skip
          as_aux_lemma =>
            go_wp2_with fail
            go_ret
            exact ⟨rfl, HB3d.out⟩
        have HZ2 := Lib.hid (HNX.out (by rw [HER2.out, if_neg (by decide)]))
        have wp : IntKind.i64.wrap (P + cp) = P + cp := IntWalk.i64_in _ (by omega)
        clear HER2 HSTOP HNX
        skip
        as_aux_lemma =>
          go_wp2_with fail
          go_roundw
          case rel => exact ⟨j + 1 + 1, by omega, by rw [HPS.out], by go_num, HZ2.out, HB3d.out⟩
          case measure => simp [intOf]; omega
end Go.Proofs.YtppinnjdaoaddaaGreatDoor

set_option linter.unusedVariables false
set_option linter.unusedSimpArgs false
namespace Go.Proofs.YtppinnjdaoaddaaGreatDoor
open Go.RowKit

def badN (n : Int) : Bool := !(inB n 0 1000000000000)
theorem sent_pred (w : World) : PredAt Tryz.prog 61 #[] (fun x : Int => .int .i64 x) badN w := fun W x _ => by
  show Calls Tryz.prog 61 #[.int .i64 x] W _
  unfold badN
  go_enter Tryz.func61, Tryz.ntmps61
  go_wp2_with (go_at_call 56; refine (in_same _ _ _ _).mono ?_; rintro e w' ⟨rfl, rfl⟩)
  go_ret
  exact ⟨rfl, 0, rfl⟩
set_option maxRecDepth 100000 in
theorem hasBad_any (w : World) (a : Option Addr) (n cap : Nat) (xs : List Int) (h : IRow .i64 w a n xs) (hn : n ≤ 1000) : Calls Tryz.prog 60 #[.slice a n cap, .func (.func 61) #[] #[]] w fun e w' => e = .returned (.bool (xs.any badN)) ∧ Below w.heap.size w w' := by
  obtain ⟨hlen, h0 | ⟨b, off, rfl, hb, hc⟩⟩ := h
  · subst h0
    obtain rfl : xs = [] := List.length_eq_zero_iff.1 hlen.symm
    refine (Tryz.slices_hasI_empty a cap _ w).mono ?_
    rintro e w' ⟨rfl, rfl⟩
    exact ⟨rfl, Below.refl _ _⟩
  · have ht : xs.take n = xs := by rw [hlen, List.take_length]
    have := Tryz.slices_hasI (fun x : Int => .int .i64 x) badN 61 #[] (by intro args w; rfl) b off n cap xs w (sent_pred w) (by omega) (by omega) (fun j hj => by
      rw [hc j (by omega), List.getD_eq_getElem?_getD, List.getElem?_eq_getElem hj, getElem!_pos xs j hj]; rfl)
    rw [ht] at this
    refine this.mono ?_
    rintro e w' ⟨rfl, q, rfl⟩
    exact ⟨rfl, ext_drewN (Below.refl _ _)⟩
theorem sentFault_any (w : World) (a2 : Option Addr) (m c2 : Nat) (s : List Shr) (hm : m = s.length) (hm5 : m ≤ 1000) (a : Option Addr) (q cap : Nat) (sent : List Int) (h : IRow .i64 w a q sent) (hq : q ≤ 1000) : Calls Tryz.prog 19 #[.slice a2 m c2, .slice a q cap] w (ErrPost (sentErr s sent) w) := by
  have hql : q = sent.length := h.1
  have HD : Hid (sentErr s sent = if m ≠ q then 3 else if sent.any badN = true then 1 else 0) := by show _ = _; rw [hm, hql]; rfl
  have HC := Lib.hid (hasBad_any w a q cap sent h hq)
  clear h hm hql
  generalize sent.any badN = g at HD HC
  generalize sentErr s sent = R at HD ⊢
  by_cases hne : m = q
  · subst hne
    go_enter Tryz.func19, Tryz.ntmps19
    go_wp2_with fail
    refine HC.out.mono ?_
    rintro e w1 ⟨rfl, hb⟩
    have HB := Lib.hid hb
    clear hb HC
    cases g
    · obtain rfl : R = 0 := by rw [HD.out, if_neg (by simp)]; rfl
      go_wp2_with fail
      go_ret
      exact ⟨rfl, HB.out⟩
    · obtain rfl : R = 1 := by rw [HD.out, if_neg (by simp)]; rfl
      go_wp2_with fail
      go_ret
      exact ⟨rfl, HB.out⟩
  · obtain rfl : R = 3 := by rw [HD.out, if_pos hne]
    have hnb : ((m : Int) != (q : Int)) = true := by simp; omega
    go_enter Tryz.func19, Tryz.ntmps19
    go_wp2_with fail
    go_ret
    exact ⟨rfl, Below.refl _ _⟩
end Go.Proofs.YtppinnjdaoaddaaGreatDoor

set_option linter.unusedVariables false
set_option linter.unusedSimpArgs false
namespace Go.Proofs.YtppinnjdaoaddaaGreatDoor
open Go.RowKit

set_option maxRecDepth 100000 in
set_option maxHeartbeats 4000000 in
theorem checkMea_any (w : World) (a : Option Addr) (n cap : Nat) (l : List Carr) (hl : CarrRow w a n l) (hcap : n ≤ cap) (a2 : Option Addr) (m cap2 : Nat) (rs : List Rcd) (hs : RcdRow w a2 m rs) (hcap2 : m ≤ cap2) (f t : Int) (hf : -2000000000000 ≤ f ∧ f ≤ 2000000000000) (ht : -2000000000000 ≤ t ∧ t ≤ 2000000000000) : Calls Tryz.prog 62 #[.slice a n cap, .slice a2 m cap2, .agg #[.int .i64 f, .int .i64 t]] w (ErrPost (recsErr l rs f t) w) := by
  have hlen := hs.len
  have hfew := hs.few
  have HC := Lib.hid (recs_cases l rs f t (by omega))
  have HWD : Hid (winErr f t = if 0 ≤ f ∧ f ≤ t ∧ t ≤ 345686400000 then 0 else 1) := rfl
  have HCR0 := Lib.hid hl
  have HSR0 := Lib.hid hs
  clear hl hs
  generalize recsErr l rs f t = R at HC ⊢
  rw [← hlen] at HC
  have HLEN := Lib.hid hlen
  clear hlen
  have hbig : ¬ (3000 : Int) < m := by omega
  go_enter Tryz.func62, Tryz.ntmps62
  go_wp2_with fail
  clear hbig
  have HB0 : Hid (Below w.heap.size w (w.alloc (.cells #[.int .i64 f, .int .i64 t] 32))) := ext_alloc (Below.refl _ _)
  have b0 : (w.alloc (.cells #[.int .i64 f, .int .i64 t] 32)).cell? ⟨w.heap.size, 0, none⟩ = some (.int .i64 f) := by go_simp
  have b1 : (w.alloc (.cells #[.int .i64 f, .int .i64 t] 32)).cell? ⟨w.heap.size, 1, none⟩ = some (.int .i64 t) := by go_simp
  have hTl : w.heap.size < (w.alloc (.cells #[.int .i64 f, .int .i64 t] 32)).heap.size := by simp
  generalize w.alloc (.cells #[.int .i64 f, .int .i64 t] 32) = W0 at HB0 b0 b1 hTl ⊢
  have HCR := Lib.hid (HCR0.out.below HB0.out)
  have HSR := Lib.hid (HSR0.out.below HB0.out)
  clear HCR0 HSR0
  generalize w.heap.size = T at b0 b1 hTl ⊢
  go_loopw [14] (fun it wr => ∃ k : Nat, k ≤ m ∧ it = .int .i64 k ∧ Hid (∀ j, j < k → recErr l rs j = 0) ∧ Hid (Below W0.heap.size W0 wr)) (fun it _ => m - (intOf it).toNat)
  case atStart => exact ⟨0, Nat.zero_le _, rfl, fun j hj => by omega, Below.refl _ _⟩
  case round =>
    obtain ⟨k, hk, rfl, HZ, HB⟩ := hrel
    have HBw := Lib.hid (ext_trans HB0.out HB.out)
    by_cases hlt : k < m
    case neg =>
      obtain rfl : k = m := by omega
      have HE := Lib.hid (HC.out.2 HZ.out)
      have d0 := (HB.out.cell (p := ⟨T, 0, none⟩) hTl).trans b0
      have d1 := (HB.out.cell (p := ⟨T, 1, none⟩) hTl).trans b1
      clear HC HZ b0 b1
      have HF : ∀ E, winErr f t = E → R = E := fun E h => by rw [HE.out, h]
      by_cases h1 : f < 0
      · obtain rfl : R = 1 := HF 1 (by rw [HWD.out, if_neg (fun h => by omega)])
        clear HE HWD HF
        as_aux_lemma =>
          go_wp2_with fail
          go_ret
          exact ⟨rfl, HBw.out⟩
      by_cases h2 : t < f
      · obtain rfl : R = 1 := HF 1 (by rw [HWD.out, if_neg (fun h => by omega)])
        clear HE HWD HF
        as_aux_lemma =>
          go_wp2_with fail
          go_ret
          exact ⟨rfl, HBw.out⟩
      by_cases h3 : 345686400000 < t
      · obtain rfl : R = 1 := HF 1 (by rw [HWD.out, if_neg (fun h => by omega)])
        clear HE HWD HF
        as_aux_lemma =>
          go_wp2_with fail
          go_ret
          exact ⟨rfl, HBw.out⟩
      obtain rfl : R = 0 := HF 0 (by rw [HWD.out, if_pos ⟨by omega, by omega, by omega⟩])
      clear HE HWD HF
      as_aux_lemma =>
        go_wp2_with fail
        go_ret
        exact ⟨rfl, HBw.out⟩

    obtain ⟨b, off, rfl, hb, hc⟩ := HSR.out.at (by omega)
    obtain ⟨q0, q1, q2, q3, q4, q5, q6, q7⟩ := hc k hlt
    have c0 := (HB.out.cell (p := ⟨b, off + k * 8, none⟩) hb).trans q0
    have c1 := (HB.out.cell (p := ⟨b, off + k * 8 + 1, none⟩) hb).trans q1
    have c2 := (HB.out.cell (p := ⟨b, off + k * 8 + 2, none⟩) hb).trans q2
    have c3 := (HB.out.cell (p := ⟨b, off + k * 8 + 3, none⟩) hb).trans q3
    have c4 := (HB.out.cell (p := ⟨b, off + k * 8 + 4, none⟩) hb).trans q4
    have c5 := (HB.out.cell (p := ⟨b, off + k * 8 + 5, none⟩) hb).trans q5
    have c6 := (HB.out.cell (p := ⟨b, off + k * 8 + 6, none⟩) hb).trans q6
    have c7 := (HB.out.cell (p := ⟨b, off + k * 8 + 7, none⟩) hb).trans q7
    obtain ⟨h0, h1, h2, h3, h4, h5, h6, h7⟩ := HSR.out.each k (by rw [← HLEN.out]; exact hlt)
    have HER : Hid (recErr l rs k = if isMomB (rs.getD k noRcd).at_ = false ∨ inB (rs.getD k noRcd).talk 0 86400000 = false then 1
      else if inB (rs.getD k noRcd).how 1 4 = false then 4
      else if (rs.getD k noRcd).carrier ≠ [] ∧ hasC l (rs.getD k noRcd).carrier = false then 8
      else 0) := rfl
    have HSTOP := Lib.hid (HC.out.1 k hlt HZ.out)
    have HNX : Hid (recErr l rs k = 0 → ∀ j, j < k + 1 → recErr l rs j = 0) := fun h j hj => by
      rcases Nat.lt_succ_iff_lt_or_eq.1 hj with h9 | rfl
      · exact HZ.out j h9
      · exact h
    clear q0 q1 q2 q3 q4 q5 q6 q7 hc HZ HC
    generalize recErr l rs k = X at HER HSTOP HNX
    generalize rs.getD k noRcd = c at c0 c1 c2 c3 c4 c5 c6 c7 h0 h1 h2 h3 h4 h5 h6 h7 HER
    obtain ⟨ri, rf, rt, ra, rr, rk, rh, rc⟩ := c
    simp only at c0 c1 c2 c3 c4 c5 c6 c7 h0 h1 h2 h3 h4 h5 h6 h7 HER
    have HBA : Hid (Below w.heap.size w (wr.alloc (.cells #[.string ⟨ri.toArray⟩, .string ⟨rf.toArray⟩, .string ⟨rt.toArray⟩, .int .i64 ra, .int .i64 rr, .int .i64 rk, .int .i64 rh, .string ⟨rc.toArray⟩] 83))) := ext_alloc HBw.out
    have HBX : Hid (Below W0.heap.size W0 (wr.alloc (.cells #[.string ⟨ri.toArray⟩, .string ⟨rf.toArray⟩, .string ⟨rt.toArray⟩, .int .i64 ra, .int .i64 rr, .int .i64 rk, .int .i64 rh, .string ⟨rc.toArray⟩] 83))) := ext_alloc HB.out
    as_aux_lemma =>
      go_wp2_with fail
      refine (isMoment_any ra _).mono ?_
      rintro e w3 ⟨rfl, rfl⟩
      generalize isMomB ra = g1 at HER ⊢
      cases g1
      · obtain rfl : X = 1 := by rw [HER.out, if_pos (Or.inl rfl)]
        obtain rfl : R = 1 := HSTOP.out (by decide)
        clear HER HSTOP HNX
        skip
        as_aux_lemma =>
          go_wp2_with fail
          go_ret
          exact ⟨rfl, HBA.out⟩
      skip
      as_aux_lemma =>
        go_wp2_with fail
        refine (within_c rk 0 86400000 _).mono ?_
        rintro e w3 ⟨rfl, rfl⟩
        generalize inB rk 0 86400000 = g2 at HER ⊢
        cases g2
        · obtain rfl : X = 1 := by rw [HER.out, if_pos (Or.inr rfl)]
          obtain rfl : R = 1 := HSTOP.out (by decide)
          clear HER HSTOP HNX
          skip
          as_aux_lemma =>
            go_wp2_with fail
            go_ret
            exact ⟨rfl, HBA.out⟩
        have HER1 : Hid (X = if inB rh 1 4 = false then 4
          else if rc ≠ [] ∧ hasC l rc = false then 8
          else 0) := by show _ = _; rw [HER.out, if_neg (by simp)]
        clear HER
        skip
        as_aux_lemma =>
          go_wp2_with fail
          refine (within_c rh 1 4 _).mono ?_
          rintro e w3 ⟨rfl, rfl⟩
          generalize inB rh 1 4 = g3 at HER1 ⊢
          cases g3
          · obtain rfl : X = 4 := by rw [HER1.out, if_pos rfl]
            obtain rfl : R = 4 := HSTOP.out (by decide)
            clear HER1 HSTOP HNX
            skip
            as_aux_lemma =>
              go_wp2_with fail
              go_ret
              exact ⟨rfl, HBA.out⟩
          have HER2 : Hid (X = if rc ≠ [] ∧ hasC l rc = false then 8
            else 0) := by show _ = _; rw [HER1.out, if_neg (by decide)]
          clear HER1
          cases rc with
          | nil =>
            have HZ2 := Lib.hid (HNX.out (by rw [HER2.out, if_neg (fun h => h.1 rfl)]))
            clear HER2 HSTOP HNX
            skip
            as_aux_lemma =>
              go_wp2_with fail
              go_roundw
              case rel => exact ⟨k + 1, by omega, by go_num, HZ2.out, HBX.out⟩
              case measure => simp [intOf]; omega
          | cons z rc =>
            have HID : Hid (idxC l (z :: rc) < 0 ↔ hasC l (z :: rc) = false) := idxC_neg
            have HFD : Hid (∀ W a n cap, CarrRow W a n l → Calls Tryz.prog 58 #[.slice a n cap, .string ⟨(z :: rc).toArray⟩] W fun e w' => e = .returned (.int .i64 (idxC l (z :: rc))) ∧ Below W.heap.size W w') := fun W a n cap h => find_any W a n cap l h (z :: rc)
            generalize idxC l (z :: rc) = D at HID HFD
            generalize hasC l (z :: rc) = g4 at HID HER2
            skip
            as_aux_lemma =>
              go_wp2_with fail
              refine (HFD.out _ a n cap (HCR.out.below HBX.out)).mono ?_
              rintro e w4 ⟨rfl, hb4⟩
              have HB4 := Lib.hid (ext_trans HBA.out hb4)
              have HX4 := Lib.hid (ext_trans HBX.out hb4)
              clear hb4 HFD
              by_cases hD : D < 0
              · obtain rfl : X = 8 := by rw [HER2.out, if_pos ⟨by simp, HID.out.1 hD⟩]
                obtain rfl : R = 8 := HSTOP.out (by decide)
                clear HER2 HSTOP HNX HID
                skip
                as_aux_lemma =>
                  go_wp2_with fail
                  go_ret
                  exact ⟨rfl, HB4.out⟩
              · have HZ2 := Lib.hid (HNX.out (by rw [HER2.out, if_neg (fun h => hD (HID.out.2 h.2))]))
                clear HER2 HSTOP HNX HID
                skip
                as_aux_lemma =>
                  go_wp2_with fail
                  go_roundw
                  case rel => exact ⟨k + 1, by omega, by go_num, HZ2.out, HX4.out⟩
                  case measure => simp [intOf]; omega
end Go.Proofs.YtppinnjdaoaddaaGreatDoor

set_option linter.unusedVariables false
set_option linter.unusedSimpArgs false
namespace Go.Proofs.YtppinnjdaoaddaaGreatDoor
open Go.RowKit

theorem row2 (w : World) (B : Nat) (v0 v1 : Value) : (w.setCell ⟨B, 0, none⟩ v0).setCell ⟨B, 1, none⟩ v1 = w.setCells B 0 [v0, v1] := rfl
theorem there2 {w : World} {B : Nat} {v0 v1 : Value} (h0 : w.cell? ⟨B, 0, none⟩ = some v0) (h1 : w.cell? ⟨B, 1, none⟩ = some v1) (hf : ∀ j, w.frozen? ⟨B, j, none⟩ = false) : w.there B 0 2 := fun j hj => by
  match j, hj with
  | 0, _ => exact ⟨by rw [h0]; rfl, hf _⟩
  | 1, _ => exact ⟨by rw [h1]; rfl, hf _⟩
theorem tmod_nat (x y : Nat) : Int.tmod (x : Int) (y : Int) = ((x % y : Nat) : Int) := (Int.ofNat_tmod x y).symm
theorem tdiv_nat (x y : Nat) : Int.tdiv (x : Int) (y : Int) = ((x / y : Nat) : Int) := (Int.ofNat_tdiv x y).symm
def FracPost (a b : Nat) (w : World) (e : Ending) (w' : World) : Prop := e = .returned (.agg #[.int .i64 ((a / Nat.gcd a b : Nat) : Int), .int .i64 ((b / Nat.gcd a b : Nat) : Int)]) ∧ Below w.heap.size w w'

theorem Tryz.infoFracSize : (Tryz.prog.info? 54).map (·.size) = some 2 := by kernel_rfl
set_option maxRecDepth 100000 in
set_option maxHeartbeats 1000000 in
theorem fraction_any (a b : Nat) (ha : a ≤ 1000000000000000) (hb0 : 0 < b) (hb : b ≤ 1000000000000000) (w : World) : Calls Tryz.prog 63 #[.int .i64 (a : Int), .int .i64 (b : Int)] w (FracPost a b w) := by
  go_enter Tryz.func63, Tryz.ntmps63
  go_wp2_with fail
  have HB0 : Hid (Below w.heap.size w (w.alloc (.cells #[.int .i64 0, .int .i64 0] 54))) := ext_alloc (Below.refl _ _)
  have HTX : Hid ((w.alloc (.cells #[.int .i64 0, .int .i64 0] 54)).there w.heap.size 0 2) := there2 (v0 := .int .i64 0) (v1 := .int .i64 0) (by go_simp) (by go_simp) (fun j => by go_simp)
  generalize w.alloc (.cells #[.int .i64 0, .int .i64 0] 54) = W0 at HB0 HTX ⊢
  generalize hTT : w.heap.size = T at HTX ⊢
  have HTT := Lib.hid hTT
  clear hTT
  go_loopw [5, 6] (fun v5 v6 wr => ∃ x y : Nat, v5 = .int .i64 x ∧ v6 = .int .i64 y ∧ x ≤ 1000000000000000 ∧ y ≤ 1000000000000000 ∧ 0 < y ∧ Hid (Nat.gcd x y = Nat.gcd a b) ∧ wr = W0) (fun v5 _ _ => (intOf v5).toNat)
  case atStart => exact ⟨a, b, rfl, rfl, ha, hb, hb0, rfl, rfl⟩
  case round =>
    obtain ⟨x, y, rfl, rfl, hx, hy, hy0, HG, rfl⟩ := hrel
    by_cases h0 : x = 0
    · subst h0
      have hg : Nat.gcd a b = y := by rw [← HG.out, Nat.gcd_zero_left]
      have hyne : ¬ (y = 0) := by omega
      have hda := Nat.div_le_self a y
      have hdb := Nat.div_le_self b y
      generalize hqa : a / y = qa at hda
      generalize hqb : b / y = qb at hdb
      have w1 : IntKind.i64.wrap (qa : Int) = qa := IntWalk.i64_in _ (by omega)
      have w2 : IntKind.i64.wrap (qb : Int) = qb := IntWalk.i64_in _ (by omega)
      have t1 : Int.tdiv (a : Int) (y : Int) = (qa : Int) := by rw [tdiv_nat, hqa]
      have t2 : Int.tdiv (b : Int) (y : Int) = (qb : Int) := by rw [tdiv_nat, hqb]
      have HQA : Hid (a / Nat.gcd a b = qa) := by show _ = _; rw [hg, hqa]
      have HQB : Hid (b / Nat.gcd a b = qb) := by show _ = _; rw [hg, hqb]
      clear hg hda hdb
      go_upto_region 4 with (fail)
      refine region_lastI (S := fun W => Below wr.drew.heap.size wr.drew W) [(true, 0), (true, 1), (true, 2), (true, 3), (true, 4), (true, 5), (true, 6)] (by kernel_rfl) rfl rfl (by kernel_rfl) (by kernel_rfl) rfl (by kernel_rfl) (Below.refl _ _) ?_
      simp only [seqOps, List.dropLast, List.getD_cons_zero, List.getD_cons_succ]
      refine seqI_take (v := .int .i64 (a : Int)) rfl (fun W hW => by clear hW; go_simp) (fun _ _ _ h => h) ?_
      simp only [Act.put, List.setIfInBounds_toArray, List.set_cons_zero, List.set_cons_succ]
      refine seqI_take (v := .int .i64 (y : Int)) rfl (fun W hW => by clear hW; go_simp) (fun _ _ _ h => h) ?_
      simp only [Act.put, List.setIfInBounds_toArray, List.set_cons_zero, List.set_cons_succ]
      refine seqI_take (v := .int .i64 (qa : Int)) rfl (fun W hW => by clear hW; go_simp) (fun _ _ _ h => h) ?_
      simp only [Act.put, List.setIfInBounds_toArray, List.set_cons_zero, List.set_cons_succ]
      refine seqI_take (v := .int .i64 (b : Int)) rfl (fun W hW => by clear hW; go_simp) (fun _ _ _ h => h) ?_
      simp only [Act.put, List.setIfInBounds_toArray, List.set_cons_zero, List.set_cons_succ]
      refine seqI_take (v := .int .i64 (y : Int)) rfl (fun W hW => by clear hW; go_simp) (fun _ _ _ h => h) ?_
      simp only [Act.put, List.setIfInBounds_toArray, List.set_cons_zero, List.set_cons_succ]
      refine seqI_take (v := .int .i64 (qb : Int)) rfl (fun W hW => by clear hW; go_simp) (fun _ _ _ h => h) ?_
      simp only [Act.put, List.setIfInBounds_toArray, List.set_cons_zero, List.set_cons_succ]
      refine seqI_take (v := .agg #[.int .i64 (qa : Int), .int .i64 (qb : Int)]) rfl (fun W hW => by clear hW; go_simp) (fun _ _ _ h => h) ?_
      simp only [Act.put, List.setIfInBounds_toArray, List.set_cons_zero, List.set_cons_succ]
      refine seqI_nil (Or.inl ?_)
      refine wp_store_mid 54 (.tmp 4) (.tmp 21) rfl T 0 #[.int .i64 (qa : Int), .int .i64 (qb : Int)] rfl rfl (by rw [World.there_drew]; exact HTX.out) Tryz.infoFracSize (by simp [Value.oneCell']) ?_
      have HC9 := Lib.hid (World.rangeAt_setCells_same wr.drew T 0 [.int .i64 (qa : Int), .int .i64 (qb : Int)] (by rw [World.there_drew]; exact HTX.out))
      have HB9 : Hid (Below w.heap.size w (World.setCells wr.drew T 0 [.int .i64 (qa : Int), .int .i64 (qb : Int)])) := setCells_ext (B := T) (Nat.le_of_eq HTT.out) [.int .i64 (qa : Int), .int .i64 (qb : Int)] wr.drew 0 (ext_drew HB0.out)
      simp only [Act.put]
      generalize World.setCells wr.drew T 0 _ = W9 at HC9 HB9 ⊢
      go_wp2_with fail
      refine bodyPost_ret (?_ : _ = Result.ok (.agg #[.int .i64 (qa : Int), .int .i64 (qb : Int)]) _) rfl ?_
      · exact results_cell1 (t := 4) (by rfl) _ _ _ Tryz.isAgg54 Tryz.sizeOf54 (by rfl) [.int .i64 (qa : Int), .int .i64 (qb : Int)] rfl (fun j v hj => by have := HC9.out j v hj; rw [Nat.zero_add] at this; exact this)
      exact ⟨by rw [HQA.out, HQB.out], HB9.out⟩
    · have hxne : ¬ (x = 0) := by omega
      have hx0 : (0 : Int) < x := by omega
      have hr : y % x < x := Nat.mod_lt _ (by omega)
      have HG2 : Hid (Nat.gcd (y % x) x = Nat.gcd a b) := by show _ = _; rw [← Nat.gcd_rec, HG.out]
      generalize hqr : y % x = q at hr HG2
      have t1 : Int.tmod (y : Int) (x : Int) = (q : Int) := by rw [tmod_nat, hqr]
      have w1 : IntKind.i64.wrap (q : Int) = q := IntWalk.i64_in _ (by omega)
      clear hqr HG
      go_wp2_with fail
      go_roundw
      case rel => exact ⟨q, x, by go_num, by go_num, by omega, by omega, by omega, HG2.out, trivial⟩
      case measure => simp [intOf]; omega
set_option maxRecDepth 100000 in
set_option maxHeartbeats 1000000 in
theorem lowest_any (a b : Nat) (ha : a ≤ 1000000000000000) (hb0 : 0 < b) (hb : b ≤ 1000000000000000) (w : World) : Calls Tryz.prog 66 #[.int .i64 (a : Int), .int .i64 (b : Int)] w (FracPost a b w) := by
  go_enter Tryz.func66, Tryz.ntmps66
  go_wp2_with fail
  have HB0 : Hid (Below w.heap.size w (w.alloc (.cells #[.int .i64 0, .int .i64 0] 54))) := ext_alloc (Below.refl _ _)
  have HTX : Hid ((w.alloc (.cells #[.int .i64 0, .int .i64 0] 54)).there w.heap.size 0 2) := there2 (v0 := .int .i64 0) (v1 := .int .i64 0) (by go_simp) (by go_simp) (fun j => by go_simp)
  generalize w.alloc (.cells #[.int .i64 0, .int .i64 0] 54) = W0 at HB0 HTX ⊢
  generalize hTT : w.heap.size = T at HTX ⊢
  have HTT := Lib.hid hTT
  clear hTT
  go_loopw [5, 6] (fun v5 v6 wr => ∃ x y : Nat, v5 = .int .i64 y ∧ v6 = .int .i64 x ∧ x ≤ 1000000000000000 ∧ y ≤ 1000000000000000 ∧ 0 < x + y ∧ Hid (Nat.gcd x y = Nat.gcd a b) ∧ Hid (Below w.heap.size w wr) ∧ Hid (wr.there T 0 2)) (fun _ v6 _ => (intOf v6).toNat)
  case atStart => exact ⟨b, a, rfl, rfl, hb, ha, by omega, Nat.gcd_comm b a, HB0.out, HTX.out⟩
  case round =>
    clear HB0 HTX
    obtain ⟨x, y, rfl, rfl, hx, hy, hy0, HG, HB0, HTX⟩ := hrel
    by_cases h0 : x = 0
    · subst h0
      have hg : Nat.gcd a b = y := by rw [← HG.out, Nat.gcd_zero_left]
      have hyne : ¬ (y = 0) := by omega
      have hda := Nat.div_le_self a y
      have hdb := Nat.div_le_self b y
      generalize hqa : a / y = qa at hda
      generalize hqb : b / y = qb at hdb
      have w1 : IntKind.i64.wrap (qa : Int) = qa := IntWalk.i64_in _ (by omega)
      have w2 : IntKind.i64.wrap (qb : Int) = qb := IntWalk.i64_in _ (by omega)
      have t1 : Int.tdiv (a : Int) (y : Int) = (qa : Int) := by rw [tdiv_nat, hqa]
      have t2 : Int.tdiv (b : Int) (y : Int) = (qb : Int) := by rw [tdiv_nat, hqb]
      have HQA : Hid (a / Nat.gcd a b = qa) := by show _ = _; rw [hg, hqa]
      have HQB : Hid (b / Nat.gcd a b = qb) := by show _ = _; rw [hg, hqb]
      clear hg hda hdb
      go_upto_region 4 with (fail)
      refine region_lastI (S := fun W => Below wr.drew.heap.size wr.drew W) [(true, 0), (true, 1), (true, 2), (true, 3), (true, 4), (true, 5), (true, 6)] (by kernel_rfl) rfl rfl (by kernel_rfl) (by kernel_rfl) rfl (by kernel_rfl) (Below.refl _ _) ?_
      simp only [seqOps, List.dropLast, List.getD_cons_zero, List.getD_cons_succ]
      refine seqI_take (v := .int .i64 (a : Int)) rfl (fun W hW => by clear hW; go_simp) (fun _ _ _ h => h) ?_
      simp only [Act.put, List.setIfInBounds_toArray, List.set_cons_zero, List.set_cons_succ]
      refine seqI_take (v := .int .i64 (y : Int)) rfl (fun W hW => by clear hW; go_simp) (fun _ _ _ h => h) ?_
      simp only [Act.put, List.setIfInBounds_toArray, List.set_cons_zero, List.set_cons_succ]
      refine seqI_take (v := .int .i64 (qa : Int)) rfl (fun W hW => by clear hW; go_simp) (fun _ _ _ h => h) ?_
      simp only [Act.put, List.setIfInBounds_toArray, List.set_cons_zero, List.set_cons_succ]
      refine seqI_take (v := .int .i64 (b : Int)) rfl (fun W hW => by clear hW; go_simp) (fun _ _ _ h => h) ?_
      simp only [Act.put, List.setIfInBounds_toArray, List.set_cons_zero, List.set_cons_succ]
      refine seqI_take (v := .int .i64 (y : Int)) rfl (fun W hW => by clear hW; go_simp) (fun _ _ _ h => h) ?_
      simp only [Act.put, List.setIfInBounds_toArray, List.set_cons_zero, List.set_cons_succ]
      refine seqI_take (v := .int .i64 (qb : Int)) rfl (fun W hW => by clear hW; go_simp) (fun _ _ _ h => h) ?_
      simp only [Act.put, List.setIfInBounds_toArray, List.set_cons_zero, List.set_cons_succ]
      refine seqI_take (v := .agg #[.int .i64 (qa : Int), .int .i64 (qb : Int)]) rfl (fun W hW => by clear hW; go_simp) (fun _ _ _ h => h) ?_
      simp only [Act.put, List.setIfInBounds_toArray, List.set_cons_zero, List.set_cons_succ]
      refine seqI_nil (Or.inl ?_)
      refine wp_store_mid 54 (.tmp 4) (.tmp 21) rfl T 0 #[.int .i64 (qa : Int), .int .i64 (qb : Int)] rfl rfl (by rw [World.there_drew]; exact HTX.out) Tryz.infoFracSize (by simp [Value.oneCell']) ?_
      have HC9 := Lib.hid (World.rangeAt_setCells_same wr.drew T 0 [.int .i64 (qa : Int), .int .i64 (qb : Int)] (by rw [World.there_drew]; exact HTX.out))
      have HB9 : Hid (Below w.heap.size w (World.setCells wr.drew T 0 [.int .i64 (qa : Int), .int .i64 (qb : Int)])) := setCells_ext (B := T) (Nat.le_of_eq HTT.out) [.int .i64 (qa : Int), .int .i64 (qb : Int)] wr.drew 0 (ext_drew HB0.out)
      simp only [Act.put]
      generalize World.setCells wr.drew T 0 _ = W9 at HC9 HB9 ⊢
      go_wp2_with fail
      refine bodyPost_ret (?_ : _ = Result.ok (.agg #[.int .i64 (qa : Int), .int .i64 (qb : Int)]) _) rfl ?_
      · exact results_cell1 (t := 4) (by rfl) _ _ _ Tryz.isAgg54 Tryz.sizeOf54 (by rfl) [.int .i64 (qa : Int), .int .i64 (qb : Int)] rfl (fun j v hj => by have := HC9.out j v hj; rw [Nat.zero_add] at this; exact this)
      exact ⟨by rw [HQA.out, HQB.out], HB9.out⟩
    · have hxne : ¬ (x = 0) := by omega
      have hx0 : (0 : Int) < x := by omega
      have hr : y % x < x := Nat.mod_lt _ (by omega)
      have HG2 : Hid (Nat.gcd (y % x) x = Nat.gcd a b) := by show _ = _; rw [← Nat.gcd_rec, HG.out]
      generalize hqr : y % x = q at hr HG2
      have t1 : Int.tmod (y : Int) (x : Int) = (q : Int) := by rw [tmod_nat, hqr]
      have w1 : IntKind.i64.wrap (q : Int) = q := IntWalk.i64_in _ (by omega)
      clear hqr HG
      go_wp2_with fail
      go_quiet (fail)
      go_wp2_with fail
      go_roundw
      case rel => exact ⟨q, x, by go_num, by go_num, by omega, by omega, by omega, HG2.out, ext_drewN HB0.out, HTX.out⟩
      case measure => simp [intOf]; omega
end Go.Proofs.YtppinnjdaoaddaaGreatDoor

set_option linter.unusedVariables false
set_option linter.unusedSimpArgs false
namespace Go.Proofs.YtppinnjdaoaddaaGreatDoor
open Go.RowKit

set_option maxRecDepth 100000 in
set_option maxHeartbeats 4000000 in
theorem measure_any (w : World) (a : Option Addr) (n cap : Nat) (l : List Carr) (hl : CarrRow w a n l) (hcap : n ≤ cap) (a2 : Option Addr) (m cap2 : Nat) (rs : List Rcd) (hs : RcdRow w a2 m rs) (hcap2 : m ≤ cap2) (f t : Int) (hf : -2000000000000 ≤ f ∧ f ≤ 2000000000000) (ht : -2000000000000 ≤ t ∧ t ≤ 2000000000000) : Calls Tryz.prog 21 #[.slice a n cap, .slice a2 m cap2, .agg #[.int .i64 f, .int .i64 t]] w (MeasPost l rs f t w) := by
  obtain ⟨i1, hi1, hy0, hy1, hy2⟩ := info_parts Tryz.infoQual
  have hfew := hs.few
  have hlf := hl.few
  have HLL := Lib.hid hl.len
  have HLEN := Lib.hid hs.len
  have HCR0 := Lib.hid hl
  have HSR0 := Lib.hid hs
  have HMD : Hid (measE l rs f t = if carrsErr l ≠ 0 then carrsErr l else recsErr l rs f t) := rfl
  have HRZ : Hid (recsErr l rs f t = 0 → (∀ i, i < m → 0 ≤ (rs.getD i noRcd).talk ∧ (rs.getD i noRcd).talk ≤ 86400000) ∧ 0 ≤ f ∧ f ≤ t ∧ t ≤ 345686400000) := fun h => by rw [HLEN.out]; exact recs_zero (by rw [← HLEN.out]; omega) h
  have HBAD : Hid (∀ E w', measE l rs f t = E → E ≠ 0 → Below w.heap.size w w' → MeasPost l rs f t w (.returned (.tuple #[.slice none 0 0, .int .i64 E])) w') := fun E w' h1 h2 h3 => meas_bad h1 h2 h3
  have HOK : Hid (∀ v qs w', measE l rs f t = 0 → qs = quals l rs f t n → w'.ownsRow w.heap.size 56 5 v qs.length ((qs.map Qual.cells).flatten) → Below w.heap.size w w' → MeasPost l rs f t w (.returned (.tuple #[v, .int .i64 0])) w') := fun v qs w' h1 h2 h3 h4 => meas_ok h1 (by rw [h2, HLL.out]) h3 h4
  clear hl hs
  go_enter Tryz.func21, Tryz.ntmps21
  go_wp2_with fail
  have HB0 : Hid (Below w.heap.size w (w.alloc (.cells #[.int .i64 f, .int .i64 t] 32))) := ext_alloc (Below.refl _ _)
  have b0 : (w.alloc (.cells #[.int .i64 f, .int .i64 t] 32)).cell? ⟨w.heap.size, 0, none⟩ = some (.int .i64 f) := by go_simp
  have b1 : (w.alloc (.cells #[.int .i64 f, .int .i64 t] 32)).cell? ⟨w.heap.size, 1, none⟩ = some (.int .i64 t) := by go_simp
  have hTl : w.heap.size < (w.alloc (.cells #[.int .i64 f, .int .i64 t] 32)).heap.size := by simp
  generalize w.alloc (.cells #[.int .i64 f, .int .i64 t] 32) = W0 at HB0 b0 b1 hTl ⊢
  have hTT : w.heap.size ≤ W0.heap.size := HB0.out.size
  have HCR := Lib.hid (HCR0.out.below HB0.out)
  have HSR := Lib.hid (HSR0.out.below HB0.out)
  clear HCR0 HSR0
  obtain ⟨T, hT⟩ : ∃ T : Nat, T = w.heap.size := ⟨_, rfl⟩
  have HTT := Lib.hid hT
  rw [← hT] at b0 b1 hTl hTT ⊢
  clear hT
  refine (checkCarr_any W0 a n cap l HCR.out hcap).mono ?_
  rintro e w1 ⟨rfl, hb1⟩
  have HB1 := Lib.hid hb1
  clear hb1
  generalize carrsErr l = C at HMD ⊢
  by_cases hC : C = 0
  case neg =>
    have HX : Hid (measE l rs f t = C) := by show _ = _; rw [HMD.out, if_pos hC]
    have hCb : (C != 0) = true := by simp [hC]
    clear HMD HRZ HOK
    as_aux_lemma =>
      go_wp2_with fail
      go_ret2
      exact HBAD.out C _ HX.out hC (ext_trans HB0.out HB1.out)
  subst hC
  have HMD2 : Hid (measE l rs f t = recsErr l rs f t) := by show _ = _; rw [HMD.out, if_neg (by simp)]
  have d0 := (HB1.out.cell (p := ⟨T, 0, none⟩) hTl).trans b0
  have d1 := (HB1.out.cell (p := ⟨T, 1, none⟩) hTl).trans b1
  have hT1 : T < w1.heap.size := Nat.lt_of_lt_of_le hTl HB1.out.size
  have HCM := Lib.hid (checkMea_any w1 a n cap l (HCR.out.below HB1.out) hcap a2 m cap2 rs (HSR.out.below HB1.out) hcap2 f t hf ht)
  clear HMD b0 b1
  as_aux_lemma =>
    go_wp2_with fail
    refine HCM.out.mono ?_
    rintro e w2 ⟨rfl, hb2⟩
    have HB2 := Lib.hid (ext_trans HB1.out hb2)
    have e0 := (hb2.cell (p := ⟨T, 0, none⟩) hT1).trans d0
    have e1 := (hb2.cell (p := ⟨T, 1, none⟩) hT1).trans d1
    have hT2 : T < w2.heap.size := Nat.lt_of_lt_of_le hT1 hb2.size
    clear hb2 HCM d0 d1 hT1 HB1
    generalize recsErr l rs f t = D at HMD2 HRZ ⊢
    by_cases hD : D = 0
    case neg =>
      have HX : Hid (measE l rs f t = D) := by show _ = _; rw [HMD2.out]
      have hDb : (D != 0) = true := by simp [hD]
      clear HMD2 HRZ HOK
      as_aux_lemma =>
        go_wp2_with fail
        go_ret2
        exact HBAD.out D _ HX.out hD (ext_trans HB0.out HB2.out)
    subst hD
    obtain ⟨hrz, hf0, hft, ht0⟩ := HRZ.out rfl
    have HTK := Lib.hid hrz
    have HCB : Hid (∀ key k, k ≤ m → 0 ≤ (cntTo rs key f t k).good ∧ (cntTo rs key f t k).good ≤ (cntTo rs key f t k).calls ∧ (cntTo rs key f t k).calls ≤ k ∧ 0 ≤ (cntTo rs key f t k).talk ∧ (cntTo rs key f t k).talk ≤ 86400000 * (cntTo rs key f t k).good) := fun key k hk => cnt_bound (fun i hi => HTK.out i (by rw [HLEN.out]; exact hi)) k (by rw [← HLEN.out]; exact hk)
    have HCR2 := Lib.hid (HCR.out.below HB2.out)
    have HSR2 := Lib.hid (HSR.out.below HB2.out)
    have HB3 := Lib.hid (ext_trans HB0.out HB2.out)
    have HOK2 : Hid (∀ v qs w', qs = quals l rs f t n → w'.ownsRow w2.heap.size 56 5 v qs.length ((qs.map Qual.cells).flatten) → Below w2.heap.size w2 w' → MeasPost l rs f t w (.returned (.tuple #[v, .int .i64 0])) w') := fun v qs w' h1 h2 h3 => HOK.out v qs w' HMD2.out h1 (own_le h2 HB3.out.size) (ext_trans HB3.out h3)
    clear HMD2 HRZ HOK HBAD hrz HCR HSR HB0 HB2 HB3 HTT hTl hTT
    as_aux_lemma =>
      go_wp2_with fail
      go_loopw [10, 32] (fun vo it wr => ∃ k : Nat, k ≤ n ∧ it = .int .i64 k ∧ Hid (wr.ownsRow w2.heap.size 56 5 vo (quals l rs f t k).length (((quals l rs f t k).map Qual.cells).flatten)) ∧ Hid (Below w2.heap.size w2 wr)) (fun _ it _ => n - (intOf it).toNat)
      case atStart => exact ⟨0, Nat.zero_le _, rfl, World.ownsRow_nil _ _ _ _, Below.refl _ _⟩
      case round =>
        obtain ⟨k, hk, rfl, HOW, HB⟩ := hrel
        by_cases hlt : k < n
        case neg =>
          obtain rfl : k = n := by omega
          clear HCB
          as_aux_lemma =>
            go_wp2_with fail
            go_ret2
            exact HOK2.out _ _ _ rfl HOW.out HB.out
        obtain ⟨b, off, rfl, hb, hc⟩ := HCR2.out.at (by omega)
        obtain ⟨q0, q1, q2⟩ := hc k hlt
        have c0 := (HB.out.cell (p := ⟨b, off + k * 3, none⟩) hb).trans q0
        have c1 := (HB.out.cell (p := ⟨b, off + k * 3 + 1, none⟩) hb).trans q1
        have c2 := (HB.out.cell (p := ⟨b, off + k * 3 + 2, none⟩) hb).trans q2
        have HQS := Lib.hid (quals_succ l rs f t k)
        have hql := quals_len l rs f t k
        clear q0 q1 q2 hc
        generalize l.getD k noCarr = c at c0 c1 c2 HQS
        generalize quals l rs f t k = qs at HQS HOW hql
        obtain ⟨key, cl, da, dn, dc, dk⟩ := c
        simp only at c0 c1 c2 HQS
        have HQC : Hid (qual rs key f t = if (cntTo rs key f t m).calls = 0 then none else some ⟨key, (cntTo rs key f t m).calls, 1000 * (cntTo rs key f t m).good / (cntTo rs key f t m).calls, (lowF (cntTo rs key f t m).talk (max (cntTo rs key f t m).good 1)).1, (lowF (cntTo rs key f t m).talk (max (cntTo rs key f t m).good 1)).2⟩) := by show _ = _; rw [HLEN.out]; rfl
        have HBk := Lib.hid (fun k => HCB.out key k)
        clear HCB
        as_aux_lemma =>
          go_wp2_with fail
          have HBA : Hid (Below w2.heap.size w2 (wr.alloc (.cells #[.string ⟨key.toArray⟩, .int .i64 cl, .slice da dn dc] 72))) := ext_alloc HB.out
          have HOA : Hid ((wr.alloc (.cells #[.string ⟨key.toArray⟩, .int .i64 cl, .slice da dn dc] 72)).ownsRow w2.heap.size 56 5 u10 qs.length ((qs.map Qual.cells).flatten)) := HOW.out.alloc _
          have g0 : (wr.alloc (.cells #[.string ⟨key.toArray⟩, .int .i64 cl, .slice da dn dc] 72)).cell? ⟨wr.heap.size, 0, none⟩ = some (.string ⟨key.toArray⟩) := by go_simp
          have hTc : wr.heap.size < (wr.alloc (.cells #[.string ⟨key.toArray⟩, .int .i64 cl, .slice da dn dc] 72)).heap.size := by simp
          have hTd : w2.heap.size ≤ wr.heap.size := HB.out.size
          have hTn : u10.ownBlock ≠ some wr.heap.size := fun e => by have := (HOW.out.lt _ e).2; omega
          clear HOW HB c0 c1 c2
          generalize wr.alloc (.cells #[.string ⟨key.toArray⟩, .int .i64 cl, .slice da dn dc] 72) = w3 at HBA HOA g0 hTc ⊢
          generalize wr.heap.size = T2 at g0 hTc hTd hTn ⊢
          obtain ⟨vo, rfl⟩ : ∃ x : Value, x = u10 := ⟨_, rfl⟩
          have f0 := (HBA.out.cell (p := ⟨T, 0, none⟩) hT2).trans e0
          have f1 := (HBA.out.cell (p := ⟨T, 1, none⟩) hT2).trans e1
          have hT3 : T < w3.heap.size := Nat.lt_of_lt_of_le hT2 HBA.out.size
          have HSR3 := Lib.hid (HSR2.out.below HBA.out)
          go_loopw [13, 14, 15, 38] (fun vc vg vt it wr => ∃ j : Nat, j ≤ m ∧ it = .int .i64 j ∧ vc = .int .i64 (cntTo rs key f t j).calls ∧ vg = .int .i64 (cntTo rs key f t j).good ∧ vt = .int .i64 (cntTo rs key f t j).talk ∧ Hid (Below w3.heap.size w3 wr)) (fun _ _ _ it _ => m - (intOf it).toNat)
          case atStart => exact ⟨0, Nat.zero_le _, rfl, rfl, rfl, rfl, Below.refl _ _⟩
          case round =>
            obtain ⟨j, hj, rfl, rfl, rfl, rfl, HBj⟩ := hrel
            obtain ⟨x0, x1, x2, x3, x4⟩ := HBk.out j hj
            have g1 := (HBj.out.cell (p := ⟨T2, 0, none⟩) hTc).trans g0
            by_cases hlt2 : j < m
            · obtain ⟨b4, off4, rfl, hb4, hc4⟩ := HSR3.out.at (by omega)
              obtain ⟨q0, q1, q2, q3, q4, q5, q6, q7⟩ := hc4 j hlt2
              have c0 := (HBj.out.cell (p := ⟨b4, off4 + j * 8, none⟩) hb4).trans q0
              have c1 := (HBj.out.cell (p := ⟨b4, off4 + j * 8 + 1, none⟩) hb4).trans q1
              have c2 := (HBj.out.cell (p := ⟨b4, off4 + j * 8 + 2, none⟩) hb4).trans q2
              have c3 := (HBj.out.cell (p := ⟨b4, off4 + j * 8 + 3, none⟩) hb4).trans q3
              have c4 := (HBj.out.cell (p := ⟨b4, off4 + j * 8 + 4, none⟩) hb4).trans q4
              have c5 := (HBj.out.cell (p := ⟨b4, off4 + j * 8 + 5, none⟩) hb4).trans q5
              have c6 := (HBj.out.cell (p := ⟨b4, off4 + j * 8 + 6, none⟩) hb4).trans q6
              have c7 := (HBj.out.cell (p := ⟨b4, off4 + j * 8 + 7, none⟩) hb4).trans q7
              have k0 := (HBj.out.cell (p := ⟨T, 0, none⟩) hT3).trans f0
              have k1 := (HBj.out.cell (p := ⟨T, 1, none⟩) hT3).trans f1
              have hTj : T < wr.heap.size := Nat.lt_of_lt_of_le hT3 HBj.out.size
              have hT2j : T2 < wr.heap.size := Nat.lt_of_lt_of_le hTc HBj.out.size
              obtain ⟨y0, y1⟩ := HTK.out j hlt2
              have HCN := Lib.hid (cnt_succ rs key f t j)
              clear q0 q1 q2 q3 q4 q5 q6 q7 hc4
              generalize rs.getD j noRcd = r at c0 c1 c2 c3 c4 c5 c6 c7 y0 y1 HCN
              generalize cntTo rs key f t j = cn at x0 x1 x2 x3 x4 HCN ⊢
              obtain ⟨ri, rf, rt, ra, rr, rk, rh, rc⟩ := r
              obtain ⟨n1, n2, n3⟩ := cn
              simp only at c0 c1 c2 c3 c4 c5 c6 c7 y0 y1 HCN x0 x1 x2 x3 x4
              have HBX : Hid (Below w3.heap.size w3 (wr.alloc (.cells #[.string ⟨ri.toArray⟩, .string ⟨rf.toArray⟩, .string ⟨rt.toArray⟩, .int .i64 ra, .int .i64 rr, .int .i64 rk, .int .i64 rh, .string ⟨rc.toArray⟩] 83))) := ext_alloc HBj.out
              have v1 : IntKind.i64.wrap (n1 + 1) = n1 + 1 := IntWalk.i64_in _ (by omega)
              have v2 : IntKind.i64.wrap (n2 + 1) = n2 + 1 := IntWalk.i64_in _ (by omega)
              have v3 : IntKind.i64.wrap (n3 + rk) = n3 + rk := IntWalk.i64_in _ (by omega)
              by_cases hin : rc = key ∧ f ≤ ra ∧ ra < t
              · obtain ⟨rfl, hi1', hi2'⟩ := hin
                by_cases hh : rh = 1
                · have HN : Hid (cntTo rs rc f t (j + 1) = ⟨n1 + 1, n2 + 1, n3 + rk⟩) := HCN.out.1 ⟨rfl, hi1', hi2'⟩ hh
                  subst hh
                  clear HCN
                  as_aux_lemma =>
                    go_wp2_with fail
                    go_quiet (fail)
                    go_wp2_with fail
                    go_roundw
                    case rel => exact ⟨j + 1, by omega, by go_num, by rw [HN.out], by rw [HN.out], by rw [HN.out], ext_drewN HBX.out⟩
                    case measure => simp [intOf]; omega
                · have HN : Hid (cntTo rs rc f t (j + 1) = ⟨n1 + 1, n2, n3⟩) := HCN.out.2.1 ⟨rfl, hi1', hi2'⟩ hh
                  have hhb : (rh == 1) = false := by simp [hh]
                  clear HCN
                  as_aux_lemma =>
                    go_wp2_with fail
                    go_roundw
                    case rel => exact ⟨j + 1, by omega, by go_num, by rw [HN.out], by rw [HN.out], by rw [HN.out], HBX.out⟩
                    case measure => simp [intOf]; omega
              · have HN : Hid (cntTo rs key f t (j + 1) = ⟨n1, n2, n3⟩) := HCN.out.2.2 hin
                clear HCN
                by_cases hk1 : rc = key
                · subst hk1
                  by_cases hk2 : ra < f
                  · clear hin
                    as_aux_lemma =>
                      go_wp2_with fail
                      go_roundw
                      case rel => exact ⟨j + 1, by omega, by go_num, by rw [HN.out], by rw [HN.out], by rw [HN.out], HBX.out⟩
                      case measure => simp [intOf]; omega
                  · have hk3 : t ≤ ra := by
                      rcases Int.lt_or_le ra t with h | h
                      · exact absurd ⟨rfl, by omega, h⟩ hin
                      · exact h
                    clear hin
                    as_aux_lemma =>
                      go_wp2_with fail
                      go_roundw
                      case rel => exact ⟨j + 1, by omega, by go_num, by rw [HN.out], by rw [HN.out], by rw [HN.out], HBX.out⟩
                      case measure => simp [intOf]; omega
                · clear hin
                  have hkb : (rc == key) = false := beq_eq_false_iff_ne.2 hk1
                  as_aux_lemma =>
                    go_wp2_with fail
                    go_roundw
                    case rel => exact ⟨j + 1, by omega, by go_num, by rw [HN.out], by rw [HN.out], by rw [HN.out], HBX.out⟩
                    case measure => simp [intOf]; omega
            · obtain rfl : j = m := by omega
              generalize cntTo rs key f t j = cn at x0 x1 x2 x3 x4 HQC ⊢
              obtain ⟨n1, n2, n3⟩ := cn
              simp only at x0 x1 x2 x3 x4 HQC ⊢
              have HBz := Lib.hid (ext_trans HBA.out HBj.out)
              have HOz := Lib.hid (own_keep HOA.out HBj.out)
              clear HBk HTK HSR3
              by_cases hn1 : n1 = 0
              · have HQ2 : Hid (quals l rs f t (k + 1) = qs) := by show _ = _; rw [HQS.out, HQC.out, if_pos hn1]; simp
                subst hn1
                as_aux_lemma =>
                  go_wp2_with fail
                  go_roundw
                  case rel => exact ⟨k + 1, by omega, by go_num, by show World.ownsRow _ _ _ _ _ _ _; rw [HQ2.out]; exact HOz.out, HBz.out⟩
                  case measure => simp [intOf]; omega
              · have hn0 : 0 < n1 := by omega
                obtain ⟨tk, rfl⟩ := Int.eq_ofNat_of_zero_le x3
                obtain ⟨md, hmd⟩ : ∃ md : Nat, max n2 1 = (md : Int) := Int.eq_ofNat_of_zero_le (by omega)
                have hmd0 : 1 ≤ md := by omega
                have hmd1 : md ≤ 100 := by omega
                have hq0 : 0 ≤ 1000 * n2 / n1 := Int.ediv_nonneg (by omega) (by omega)
                have hq1 : 1000 * n2 / n1 ≤ 1000 * n2 := Int.ediv_le_self _ (by omega)
                have ht1 : Int.tdiv (1000 * n2) n1 = 1000 * n2 / n1 := Int.tdiv_eq_ediv_of_nonneg (by omega)
                have hx0 : max n2 1 = if n2 = 0 then 1 else n2 := by split <;> omega
                have HQ2 : Hid (quals l rs f t (k + 1) = qs ++ [⟨key, n1, 1000 * n2 / n1, ((tk / Nat.gcd tk md : Nat) : Int), ((md / Nat.gcd tk md : Nat) : Int)⟩]) := by
                  show _ = _
                  rw [HQS.out, HQC.out, if_neg hn1, hmd]
                  rfl
                generalize 1000 * n2 / n1 = qd at hq0 hq1 ht1 HQ2
                have HFR := Lib.hid (fun W => fraction_any tk md (by omega) (by omega) (by omega) W)
                have v5 : IntKind.i64.wrap (1000 * n2) = 1000 * n2 := IntWalk.i64_in _ (by omega)
                have v6 : IntKind.i64.wrap qd = qd := IntWalk.i64_in _ (by omega)
                have hn1b : ¬ (n1 = 0) := hn1
                clear HQC HQS hx0
                as_aux_lemma =>
                  go_upto_region 21 with (fail)
                  have HS0 : Hid ((fun W : World => W.cell? ⟨T2, 0, none⟩ = some (.string ⟨key.toArray⟩)) wr.drew) := g1
                  refine region_seqI (S := fun W => W.cell? ⟨T2, 0, none⟩ = some (.string ⟨key.toArray⟩)) [(true, 0), (true, 1), (true, 2), (true, 3), (true, 4), (true, 5), (true, 6), (true, 7), (true, 8), (true, 9), (false, 10), (false, 11), (true, 12), (false, 13), (false, 14), (true, 15)] (by kernel_rfl) (by kernel_rfl) rfl (by kernel_rfl) HS0.out ?_
                  simp only [seqOps, List.getD_cons_zero, List.getD_cons_succ]
                  refine seqI_take (v := vo) rfl (fun W hW => by clear hW; go_simp) (fun _ _ _ h => h) ?_
                  simp only [Act.put, List.setIfInBounds_toArray, List.set_cons_zero, List.set_cons_succ]
                  refine seqI_take (v := .pointer (some ⟨T2, 0, none⟩)) rfl (fun W hW => by clear hW; go_simp) (fun _ _ _ h => h) ?_
                  simp only [Act.put, List.setIfInBounds_toArray, List.set_cons_zero, List.set_cons_succ]
                  refine seqI_take (v := .string ⟨key.toArray⟩) rfl (fun W hW => by go_simp) (fun _ _ _ h => h) ?_
                  simp only [Act.put, List.setIfInBounds_toArray, List.set_cons_zero, List.set_cons_succ]
                  refine seqI_take (v := .int .i64 n1) rfl (fun W hW => by clear hW; go_simp) (fun _ _ _ h => h) ?_
                  simp only [Act.put, List.setIfInBounds_toArray, List.set_cons_zero, List.set_cons_succ]
                  refine seqI_take (v := .int .i64 n2) rfl (fun W hW => by clear hW; go_simp) (fun _ _ _ h => h) ?_
                  simp only [Act.put, List.setIfInBounds_toArray, List.set_cons_zero, List.set_cons_succ]
                  refine seqI_take (v := .int .i64 (1000 * n2)) rfl (fun W hW => by clear hW; go_simp) (fun _ _ _ h => h) ?_
                  simp only [Act.put, List.setIfInBounds_toArray, List.set_cons_zero, List.set_cons_succ]
                  refine seqI_take (v := .int .i64 n1) rfl (fun W hW => by clear hW; go_simp) (fun _ _ _ h => h) ?_
                  simp only [Act.put, List.setIfInBounds_toArray, List.set_cons_zero, List.set_cons_succ]
                  refine seqI_take (v := .int .i64 qd) rfl (fun W hW => by clear hW; go_simp) (fun _ _ _ h => h) ?_
                  simp only [Act.put, List.setIfInBounds_toArray, List.set_cons_zero, List.set_cons_succ]
                  refine seqI_take (v := .int .i64 (tk : Int)) rfl (fun W hW => by clear hW; go_simp) (fun _ _ _ h => h) ?_
                  simp only [Act.put, List.setIfInBounds_toArray, List.set_cons_zero, List.set_cons_succ]
                  refine seqI_take (v := .int .i64 n2) rfl (fun W hW => by clear hW; go_simp) (fun _ _ _ h => h) ?_
                  simp only [Act.put, List.setIfInBounds_toArray, List.set_cons_zero, List.set_cons_succ]
                  refine seqI_do rfl (wp_val (v := .int .i64 (md : Int)) (w' := wr.drew) (by go_simp) ⟨HS0.out, ?_⟩)
                  simp only [Act.put, List.setIfInBounds_toArray, List.set_cons_zero, List.set_cons_succ]
                  refine seqI_call 63 #[.int .i64 (tk : Int), .int .i64 (md : Int)] rfl (by go_simp) (HFR.out _) ?_
                  rintro e w5 ⟨rfl, hb5⟩
                  have hS5 : w5.cell? ⟨T2, 0, none⟩ = some (.string ⟨key.toArray⟩) := (hb5.cell (p := ⟨T2, 0, none⟩) (Nat.lt_of_lt_of_le hTc HBj.out.size)).trans HS0.out
                  refine ⟨_, rfl, hS5, ?_⟩
                  simp only [Act.put, List.setIfInBounds_toArray, List.set_cons_zero, List.set_cons_succ]
                  generalize ((tk / Nat.gcd tk md : Nat) : Int) = fa at HQ2 ⊢
                  generalize ((md / Nat.gcd tk md : Nat) : Int) = fb at HQ2 ⊢
                  refine seqI_take (v := .agg #[.string ⟨key.toArray⟩, .int .i64 n1, .int .i64 qd, .int .i64 fa, .int .i64 fb]) rfl (fun W hW => by clear hW; go_simp) (fun _ _ _ h => h) ?_
                  simp only [Act.put, List.setIfInBounds_toArray, List.set_cons_zero, List.set_cons_succ]
                  have hOd : wr.drew.ownsRow w2.heap.size 56 5 vo qs.length ((qs.map Qual.cells).flatten) := HOz.out
                  have hsz : w2.heap.size ≤ w5.heap.size := Nat.le_trans HBz.out.size hb5.size
                  have hT5 : T2 < w5.heap.size := Nat.lt_of_lt_of_le hTc (Nat.le_trans HBj.out.size hb5.size)
                  have HB5 : Hid (Below w2.heap.size w2 w5) := (ext_drew HBz.out).trans (hb5.mono HBz.out.size)
                  have HOL := Lib.hid (fun b e => HOz.out.lt b e)
                  have HO5 := Lib.hid ((own_keep hOd hb5).alloc (.cells #[.string ⟨key.toArray⟩, .int .i64 n1, .int .i64 qd, .int .i64 fa, .int .i64 fb] 56))
                  have hS6 : (w5.alloc (.cells #[.string ⟨key.toArray⟩, .int .i64 n1, .int .i64 qd, .int .i64 fa, .int .i64 fb] 56)).cell? ⟨T2, 0, none⟩ = some (.string ⟨key.toArray⟩) := by go_simp
                  clear hOd hb5 HFR HOz HBz HBj HBA HOA
                  refine seqI_do rfl (wp_val (bs_q1 _ _ _ 87 ⟨key.toArray⟩ n1 qd fa fb rfl rfl) ⟨hS6, ?_⟩)
                  simp only [Act.put, List.setIfInBounds_toArray, List.set_cons_zero, List.set_cons_succ]
                  refine seqI_do rfl (wp_append_own_wide _ (.tmp 75) (.tmp 88) 47 rfl w2.heap.size 56 i1 _ 5 48 Tryz.underlying47 hi1 hy0 hy1 hy2 rfl (by omega) vo qs.length _ rfl HO5.out ⟨w5.heap.size, 0, none⟩ 1 1 [.string ⟨key.toArray⟩, .int .i64 n1, .int .i64 qd, .int .i64 fa, .int .i64 fb] rfl rfl (fun j u hj => by rw [add0]; match j, hj with | 0, hj => simp at hj; subst hj; go_simp | 1, hj => simp at hj; subst hj; go_simp | 2, hj => simp at hj; subst hj; go_simp | 3, hj => simp at hj; subst hj; go_simp | 4, hj => simp at hj; subst hj; go_simp) (by simp [Value.oneCell']) (by simp only [maxLen]; omega) (by omega) (by simp; omega) ?_)
                  intro v9 w9 hown9 hgr9 _
                  have hblk := hgr9.block T2 (by simp; omega) (fun e => hTn e.symm)
                  refine ⟨(World.cell?_of_block (a := ⟨T2, 0, none⟩) hblk).trans hS6, ?_⟩
                  have HO9 : Hid (w9.ownsRow w2.heap.size 56 5 v9 (quals l rs f t (k + 1)).length (((quals l rs f t (k + 1)).map Qual.cells).flatten)) := by
                    show World.ownsRow _ _ _ _ _ _ _
                    rw [HQ2.out, qcells_snoc, List.length_append]
                    exact hown9
                  have HB9 : Hid (Below w2.heap.size w2 w9) := HB5.out.trans (upto_grown hgr9 hsz (fun b e => (HOL.out b e).1))
                  clear hown9 hgr9 hblk HO5 HB5 HOL
                  simp only [Act.put, List.setIfInBounds_toArray, List.set_cons_zero, List.set_cons_succ]
                  refine seqI_take (v := v9) rfl (fun W hW => by clear hW; go_simp) (fun _ _ _ h => h) ?_
                  simp only [Act.put, List.setIfInBounds_toArray, List.set_cons_zero, List.set_cons_succ]
                  refine seqI_nil ?_
                  go_wp2_with fail
                  go_roundw
                  case rel => exact ⟨k + 1, by omega, by go_num, HO9.out, HB9.out⟩
                  case measure => simp [intOf]; omega
end Go.Proofs.YtppinnjdaoaddaaGreatDoor

set_option linter.unusedVariables false
set_option linter.unusedSimpArgs false
namespace Go.Proofs.YtppinnjdaoaddaaGreatDoor
open Go.RowKit

/-- A quality in a box of its own. -/
structure QBox (w : World) (B : Nat) (k : List UInt8) (c g nu de : Int) : Prop where
  lt : B < w.heap.size
  c0 : w.cell? ⟨B, 0, none⟩ = some (.string ⟨k.toArray⟩)
  c1 : w.cell? ⟨B, 1, none⟩ = some (.int .i64 c)
  c2 : w.cell? ⟨B, 2, none⟩ = some (.int .i64 g)
  c3 : w.cell? ⟨B, 3, none⟩ = some (.int .i64 nu)
  c4 : w.cell? ⟨B, 4, none⟩ = some (.int .i64 de)
  fr : ∀ j, w.frozen? ⟨B, j, none⟩ = false
theorem QBox.keep {w w' : World} {B : Nat} {k : List UInt8} {c g nu de : Int} (h : QBox w B k c g nu de) (hb : Below w.heap.size w w') : QBox w' B k c g nu de :=
  ⟨Nat.lt_of_lt_of_le h.lt hb.size, (hb.cell (p := ⟨B, 0, none⟩) h.lt).trans h.c0, (hb.cell (p := ⟨B, 1, none⟩) h.lt).trans h.c1, (hb.cell (p := ⟨B, 2, none⟩) h.lt).trans h.c2, (hb.cell (p := ⟨B, 3, none⟩) h.lt).trans h.c3, (hb.cell (p := ⟨B, 4, none⟩) h.lt).trans h.c4, fun j => (hb.frozen (p := ⟨B, j, none⟩) h.lt).trans (h.fr j)⟩
theorem QBox.calls {w : World} {B : Nat} {k : List UInt8} {c g nu de : Int} (h : QBox w B k c g nu de) (z : Int) : QBox (w.setCell ⟨B, 1, none⟩ (.int .i64 z)) B k z g nu de :=
  ⟨by simpa using h.lt, (World.cell?_setCell_other _ _ _ _ (ne_off (by decide))).trans h.c0, World.cell?_setCell_same _ _ _ h.c1, (World.cell?_setCell_other _ _ _ _ (ne_off (by decide))).trans h.c2, (World.cell?_setCell_other _ _ _ _ (ne_off (by decide))).trans h.c3, (World.cell?_setCell_other _ _ _ _ (ne_off (by decide))).trans h.c4, fun j => (World.frozen?_setCell _ _ _ _).trans (h.fr j)⟩
theorem QBox.good {w : World} {B : Nat} {k : List UInt8} {c g nu de : Int} (h : QBox w B k c g nu de) (z : Int) : QBox (w.setCell ⟨B, 2, none⟩ (.int .i64 z)) B k c z nu de :=
  ⟨by simpa using h.lt, (World.cell?_setCell_other _ _ _ _ (ne_off (by decide))).trans h.c0, (World.cell?_setCell_other _ _ _ _ (ne_off (by decide))).trans h.c1, World.cell?_setCell_same _ _ _ h.c2, (World.cell?_setCell_other _ _ _ _ (ne_off (by decide))).trans h.c3, (World.cell?_setCell_other _ _ _ _ (ne_off (by decide))).trans h.c4, fun j => (World.frozen?_setCell _ _ _ _).trans (h.fr j)⟩
theorem QBox.num {w : World} {B : Nat} {k : List UInt8} {c g nu de : Int} (h : QBox w B k c g nu de) (z : Int) : QBox (w.setCell ⟨B, 3, none⟩ (.int .i64 z)) B k c g z de :=
  ⟨by simpa using h.lt, (World.cell?_setCell_other _ _ _ _ (ne_off (by decide))).trans h.c0, (World.cell?_setCell_other _ _ _ _ (ne_off (by decide))).trans h.c1, (World.cell?_setCell_other _ _ _ _ (ne_off (by decide))).trans h.c2, World.cell?_setCell_same _ _ _ h.c3, (World.cell?_setCell_other _ _ _ _ (ne_off (by decide))).trans h.c4, fun j => (World.frozen?_setCell _ _ _ _).trans (h.fr j)⟩
theorem QBox.den {w : World} {B : Nat} {k : List UInt8} {c g nu de : Int} (h : QBox w B k c g nu de) (z : Int) : QBox (w.setCell ⟨B, 4, none⟩ (.int .i64 z)) B k c g nu z :=
  ⟨by simpa using h.lt, (World.cell?_setCell_other _ _ _ _ (ne_off (by decide))).trans h.c0, (World.cell?_setCell_other _ _ _ _ (ne_off (by decide))).trans h.c1, (World.cell?_setCell_other _ _ _ _ (ne_off (by decide))).trans h.c2, (World.cell?_setCell_other _ _ _ _ (ne_off (by decide))).trans h.c3, World.cell?_setCell_same _ _ _ h.c4, fun j => (World.frozen?_setCell _ _ _ _).trans (h.fr j)⟩
theorem inB_win {ra f t : Int} : inB ra f (t - 1) = true ↔ f ≤ ra ∧ ra < t := by
  unfold inB
  simp only [Bool.and_eq_true, decide_eq_true_eq]
  omega

set_option maxRecDepth 100000 in
set_option maxHeartbeats 4000000 in
theorem measOf_any (w : World) (a : Option Addr) (n cap : Nat) (l : List Carr) (hl : CarrRow w a n l) (hcap : n ≤ cap) (a2 : Option Addr) (m cap2 : Nat) (rs : List Rcd) (hs : RcdRow w a2 m rs) (hcap2 : m ≤ cap2) (f t : Int) (hrz : ∀ i, i < rs.length → 0 ≤ (rs.getD i noRcd).talk ∧ (rs.getD i noRcd).talk ≤ 86400000) (hf0 : 0 ≤ f) (hft : f ≤ t) (ht0 : t ≤ 345686400000) : Calls Tryz.prog 25 #[.slice a n cap, .slice a2 m cap2, .agg #[.int .i64 f, .int .i64 t]] w fun e w' => ∃ v, e = .returned v ∧ w'.ownsRow w.heap.size 56 5 v (quals l rs f t n).length (((quals l rs f t n).map Qual.cells).flatten) ∧ Below w.heap.size w w' := by
  obtain ⟨i1, hi1, hy0, hy1, hy2⟩ := info_parts Tryz.infoQual
  have hfew := hs.few
  have hlf := hl.few
  have HLL := Lib.hid hl.len
  have HLEN := Lib.hid hs.len
  have HCR0 := Lib.hid hl
  have HSR0 := Lib.hid hs
  have HTK : Hid (∀ i, i < m → 0 ≤ (rs.getD i noRcd).talk ∧ (rs.getD i noRcd).talk ≤ 86400000) := fun i hi => hrz i (by rw [← HLEN.out]; exact hi)
  have HCB : Hid (∀ key k, k ≤ m → 0 ≤ (cntTo rs key f t k).good ∧ (cntTo rs key f t k).good ≤ (cntTo rs key f t k).calls ∧ (cntTo rs key f t k).calls ≤ k ∧ 0 ≤ (cntTo rs key f t k).talk ∧ (cntTo rs key f t k).talk ≤ 86400000 * (cntTo rs key f t k).good) := fun key k hk => cnt_bound hrz k (by rw [← HLEN.out]; exact hk)
  clear hl hs hrz
  go_enter Tryz.func25, Tryz.ntmps25
  go_wp2_with fail
  have HB0 : Hid (Below w.heap.size w (w.alloc (.cells #[.int .i64 f, .int .i64 t] 32))) := ext_alloc (Below.refl _ _)
  have e0 : (w.alloc (.cells #[.int .i64 f, .int .i64 t] 32)).cell? ⟨w.heap.size, 0, none⟩ = some (.int .i64 f) := by go_simp
  have e1 : (w.alloc (.cells #[.int .i64 f, .int .i64 t] 32)).cell? ⟨w.heap.size, 1, none⟩ = some (.int .i64 t) := by go_simp
  have hT2 : w.heap.size < (w.alloc (.cells #[.int .i64 f, .int .i64 t] 32)).heap.size := by simp
  generalize w.alloc (.cells #[.int .i64 f, .int .i64 t] 32) = w2 at HB0 e0 e1 hT2 ⊢
  have HCR2 := Lib.hid (HCR0.out.below HB0.out)
  have HSR2 := Lib.hid (HSR0.out.below HB0.out)
  have HOK2 : Hid (∀ v w', w'.ownsRow w2.heap.size 56 5 v (quals l rs f t n).length (((quals l rs f t n).map Qual.cells).flatten) → Below w2.heap.size w2 w' → ∃ v', Ending.returned v = .returned v' ∧ w'.ownsRow w.heap.size 56 5 v' (quals l rs f t n).length (((quals l rs f t n).map Qual.cells).flatten) ∧ Below w.heap.size w w') := fun v w' h1 h2 => ⟨v, rfl, own_le h1 HB0.out.size, ext_trans HB0.out h2⟩
  clear HCR0 HSR0
  obtain ⟨T, hT⟩ : ∃ T : Nat, T = w.heap.size := ⟨_, rfl⟩
  rw [← hT] at e0 e1 hT2 ⊢
  clear hT HB0
  go_loopw [7, 17] (fun vo it wr => ∃ k : Nat, k ≤ n ∧ it = .int .i64 k ∧ Hid (wr.ownsRow w2.heap.size 56 5 vo (quals l rs f t k).length (((quals l rs f t k).map Qual.cells).flatten)) ∧ Hid (Below w2.heap.size w2 wr)) (fun _ it _ => n - (intOf it).toNat)
  case atStart => exact ⟨0, Nat.zero_le _, rfl, World.ownsRow_nil _ _ _ _, Below.refl _ _⟩
  case round =>
    obtain ⟨k, hk, rfl, HOW, HB⟩ := hrel
    by_cases hlt : k < n
    case neg =>
      obtain rfl : k = n := by omega
      clear HCB
      as_aux_lemma =>
        go_wp2_with fail
        go_ret
        exact HOK2.out _ _ HOW.out HB.out
    obtain ⟨b, off, rfl, hb, hc⟩ := HCR2.out.at (by omega)
    obtain ⟨q0, q1, q2⟩ := hc k hlt
    have c0 := (HB.out.cell (p := ⟨b, off + k * 3, none⟩) hb).trans q0
    have c1 := (HB.out.cell (p := ⟨b, off + k * 3 + 1, none⟩) hb).trans q1
    have c2 := (HB.out.cell (p := ⟨b, off + k * 3 + 2, none⟩) hb).trans q2
    have HQS := Lib.hid (quals_succ l rs f t k)
    have hql := quals_len l rs f t k
    clear q0 q1 q2 hc
    generalize l.getD k noCarr = c at c0 c1 c2 HQS
    generalize quals l rs f t k = qs at HQS HOW hql
    obtain ⟨key, cl, da, dn, dc, dk⟩ := c
    simp only at c0 c1 c2 HQS
    have HQC : Hid (qual rs key f t = if (cntTo rs key f t m).calls = 0 then none else some ⟨key, (cntTo rs key f t m).calls, 1000 * (cntTo rs key f t m).good / (cntTo rs key f t m).calls, (lowF (cntTo rs key f t m).talk (max (cntTo rs key f t m).good 1)).1, (lowF (cntTo rs key f t m).talk (max (cntTo rs key f t m).good 1)).2⟩) := by show _ = _; rw [HLEN.out]; rfl
    have HBk := Lib.hid (fun k => HCB.out key k)
    clear HCB
    as_aux_lemma =>
      go_wp2_with fail
      have HBA : Hid (Below w2.heap.size w2 (wr.alloc (.cells #[.string ⟨key.toArray⟩, .int .i64 cl, .slice da dn dc] 72))) := ext_alloc HB.out
      have HOA : Hid ((wr.alloc (.cells #[.string ⟨key.toArray⟩, .int .i64 cl, .slice da dn dc] 72)).ownsRow w2.heap.size 56 5 u7 qs.length ((qs.map Qual.cells).flatten)) := HOW.out.alloc _
      have g0 : (wr.alloc (.cells #[.string ⟨key.toArray⟩, .int .i64 cl, .slice da dn dc] 72)).cell? ⟨wr.heap.size, 0, none⟩ = some (.string ⟨key.toArray⟩) := by go_simp
      have hTc : wr.heap.size < (wr.alloc (.cells #[.string ⟨key.toArray⟩, .int .i64 cl, .slice da dn dc] 72)).heap.size := by simp
      have hTe : wr.heap.size + 1 = (wr.alloc (.cells #[.string ⟨key.toArray⟩, .int .i64 cl, .slice da dn dc] 72)).heap.size := by simp
      clear HOW HB c0 c1 c2
      generalize wr.alloc (.cells #[.string ⟨key.toArray⟩, .int .i64 cl, .slice da dn dc] 72) = w3 at HBA HOA g0 hTc hTe ⊢
      rw [hTe]
      generalize wr.heap.size = T2 at g0 hTc hTe ⊢
      obtain ⟨vo, rfl⟩ : ∃ x : Value, x = u7 := ⟨_, rfl⟩
      have f0 := (HBA.out.cell (p := ⟨T, 0, none⟩) hT2).trans e0
      have f1 := (HBA.out.cell (p := ⟨T, 1, none⟩) hT2).trans e1
      have hT3 : T < w3.heap.size := Nat.lt_of_lt_of_le hT2 HBA.out.size
      have HSR3 := Lib.hid (HSR2.out.below HBA.out)
      have hw23 : w2.heap.size ≤ w3.heap.size := HBA.out.size
      have HQ0 : Hid (QBox (w3.alloc (.cells #[.string ⟨key.toArray⟩, .int .i64 0, .int .i64 0, .int .i64 0, .int .i64 1] 56)) w3.heap.size key 0 0 0 1) := ⟨by simp, by go_simp, by go_simp, by go_simp, by go_simp, by go_simp, fun j => by go_simp⟩
      have HB4 : Hid (Below w3.heap.size w3 (w3.alloc (.cells #[.string ⟨key.toArray⟩, .int .i64 0, .int .i64 0, .int .i64 0, .int .i64 1] 56))) := ext_alloc (Below.refl _ _)
      generalize w3.alloc (.cells #[.string ⟨key.toArray⟩, .int .i64 0, .int .i64 0, .int .i64 0, .int .i64 1] 56) = w4 at HQ0 HB4 ⊢
      obtain ⟨Tq, hTq⟩ : ∃ Tq, Tq = w3.heap.size := ⟨_, rfl⟩
      rw [← hTq] at HQ0 ⊢
      have HTQ := Lib.hid hTq
      have hT3q : T < Tq := by omega
      have hT2q : T2 < Tq := by omega
      have hw2q : w2.heap.size ≤ Tq := by omega
      clear hTq
      go_loopw [11, 12, 27] (fun vg vt it wr => ∃ j : Nat, j ≤ m ∧ it = .int .i64 j ∧ vg = .int .i64 (cntTo rs key f t j).good ∧ vt = .int .i64 (cntTo rs key f t j).talk ∧ Hid (Below w3.heap.size w3 wr) ∧ Hid (QBox wr Tq key (cntTo rs key f t j).calls 0 0 1)) (fun _ _ it _ => m - (intOf it).toNat)
      case atStart => exact ⟨0, Nat.zero_le _, rfl, rfl, rfl, HB4.out, HQ0.out⟩
      case round =>
        clear HQ0 HB4
        obtain ⟨j, hj, rfl, rfl, rfl, HBj, HQB⟩ := hrel
        obtain ⟨x0, x1, x2, x3, x4⟩ := HBk.out j hj
        have g1 := (HBj.out.cell (p := ⟨T2, 0, none⟩) hTc).trans g0
        by_cases hlt2 : j < m
        · obtain ⟨b4, off4, rfl, hb4, hc4⟩ := HSR3.out.at (by omega)
          obtain ⟨q0, q1, q2, q3, q4, q5, q6, q7⟩ := hc4 j hlt2
          have c0 := (HBj.out.cell (p := ⟨b4, off4 + j * 8, none⟩) hb4).trans q0
          have c1 := (HBj.out.cell (p := ⟨b4, off4 + j * 8 + 1, none⟩) hb4).trans q1
          have c2 := (HBj.out.cell (p := ⟨b4, off4 + j * 8 + 2, none⟩) hb4).trans q2
          have c3 := (HBj.out.cell (p := ⟨b4, off4 + j * 8 + 3, none⟩) hb4).trans q3
          have c4 := (HBj.out.cell (p := ⟨b4, off4 + j * 8 + 4, none⟩) hb4).trans q4
          have c5 := (HBj.out.cell (p := ⟨b4, off4 + j * 8 + 5, none⟩) hb4).trans q5
          have c6 := (HBj.out.cell (p := ⟨b4, off4 + j * 8 + 6, none⟩) hb4).trans q6
          have c7 := (HBj.out.cell (p := ⟨b4, off4 + j * 8 + 7, none⟩) hb4).trans q7
          have k0 := (HBj.out.cell (p := ⟨T, 0, none⟩) hT3).trans f0
          have k1 := (HBj.out.cell (p := ⟨T, 1, none⟩) hT3).trans f1
          have hTj : T < wr.heap.size := Nat.lt_of_lt_of_le hT3 HBj.out.size
          have hT2j : T2 < wr.heap.size := Nat.lt_of_lt_of_le hTc HBj.out.size
          have hQj : Tq < wr.heap.size := HQB.out.lt
          obtain ⟨y0, y1⟩ := HTK.out j hlt2
          have HCN := Lib.hid (cnt_succ rs key f t j)
          clear q0 q1 q2 q3 q4 q5 q6 q7 hc4
          generalize rs.getD j noRcd = r at c0 c1 c2 c3 c4 c5 c6 c7 y0 y1 HCN
          generalize cntTo rs key f t j = cn at x0 x1 x2 x3 x4 HCN HQB ⊢
          obtain ⟨ri, rf, rt, ra, rr, rk, rh, rc⟩ := r
          obtain ⟨n1, n2, n3⟩ := cn
          simp only at c0 c1 c2 c3 c4 c5 c6 c7 y0 y1 HCN x0 x1 x2 x3 x4 HQB
          have HBX : Hid (Below w3.heap.size w3 (wr.alloc (.cells #[.string ⟨ri.toArray⟩, .string ⟨rf.toArray⟩, .string ⟨rt.toArray⟩, .int .i64 ra, .int .i64 rr, .int .i64 rk, .int .i64 rh, .string ⟨rc.toArray⟩] 83))) := ext_alloc HBj.out
          have HQX : Hid (QBox (wr.alloc (.cells #[.string ⟨ri.toArray⟩, .string ⟨rf.toArray⟩, .string ⟨rt.toArray⟩, .int .i64 ra, .int .i64 rr, .int .i64 rk, .int .i64 rh, .string ⟨rc.toArray⟩] 83)) Tq key n1 0 0 1) := HQB.out.keep (ext_alloc (Below.refl _ _))
          obtain ⟨-, z0, z1, z2, z3, z4, zf⟩ := HQX.out
          have v1 : IntKind.i64.wrap (n1 + 1) = n1 + 1 := IntWalk.i64_in _ (by omega)
          have v2 : IntKind.i64.wrap (n2 + 1) = n2 + 1 := IntWalk.i64_in _ (by omega)
          have v3 : IntKind.i64.wrap (n3 + rk) = n3 + rk := IntWalk.i64_in _ (by omega)
          have v4 : IntKind.i64.wrap (t - 1) = t - 1 := IntWalk.i64_in _ (by omega)
          by_cases hk1 : rc = key
          case neg =>
            have HN : Hid (cntTo rs key f t (j + 1) = ⟨n1, n2, n3⟩) := HCN.out.2.2 (fun h => hk1 h.1)
            have hkb : (rc == key) = false := beq_eq_false_iff_ne.2 hk1
            clear HCN
            as_aux_lemma =>
              go_wp2_with fail
              go_roundw
              case rel => exact ⟨j + 1, by omega, by go_num, by rw [HN.out], by rw [HN.out], HBX.out, by show QBox _ _ _ _ _ _ _; rw [HN.out]; exact HQX.out⟩
              case measure => simp [intOf]; omega
          subst hk1
          clear z0 z2 z3 z4
          as_aux_lemma =>
            go_wp2_with fail
            refine (in_same ra f (t - 1) _).mono ?_
            rintro e w5 ⟨rfl, rfl⟩
            have HIW : Hid (inB ra f (t - 1) = true ↔ f ≤ ra ∧ ra < t) := inB_win
            generalize inB ra f (t - 1) = gi at HIW ⊢
            cases gi
            · have HN : Hid (cntTo rs rc f t (j + 1) = ⟨n1, n2, n3⟩) := HCN.out.2.2 (fun h => by have := HIW.out.2 h.2; cases this)
              clear HCN HIW
              skip
              as_aux_lemma =>
                go_wp2_with fail
                go_roundw
                case rel => exact ⟨j + 1, by omega, by go_num, by rw [HN.out], by rw [HN.out], HBX.out, by show QBox _ _ _ _ _ _ _; rw [HN.out]; exact HQX.out⟩
                case measure => simp [intOf]; omega
            have HQY : Hid (QBox ((wr.setCell ⟨Tq, 1, none⟩ (.int .i64 (n1 + 1))).alloc (.cells #[.string ⟨ri.toArray⟩, .string ⟨rf.toArray⟩, .string ⟨rt.toArray⟩, .int .i64 ra, .int .i64 rr, .int .i64 rk, .int .i64 rh, .string ⟨rc.toArray⟩] 83)) Tq rc (n1 + 1) 0 0 1) := (HQB.out.calls (n1 + 1)).keep (ext_alloc (Below.refl _ _))
            have HBY : Hid (Below w3.heap.size w3 ((wr.setCell ⟨Tq, 1, none⟩ (.int .i64 (n1 + 1))).alloc (.cells #[.string ⟨ri.toArray⟩, .string ⟨rf.toArray⟩, .string ⟨rt.toArray⟩, .int .i64 ra, .int .i64 rr, .int .i64 rk, .int .i64 rh, .string ⟨rc.toArray⟩] 83))) := ext_alloc (HBj.out.setCell (by rw [← HTQ.out]; exact Nat.le_refl _) _)
            by_cases hh : rh = 1
            · have HN : Hid (cntTo rs rc f t (j + 1) = ⟨n1 + 1, n2 + 1, n3 + rk⟩) := HCN.out.1 ⟨by trivial, HIW.out.1 (by trivial)⟩ hh
              subst hh
              clear HCN HIW
              skip
              as_aux_lemma =>
                go_wp2_with fail
                go_roundw
                case rel => exact ⟨j + 1, by omega, by go_num, by rw [HN.out], by rw [HN.out], HBY.out, by show QBox _ _ _ _ _ _ _; rw [HN.out]; exact HQY.out⟩
                case measure => simp [intOf]; omega
            · have HN : Hid (cntTo rs rc f t (j + 1) = ⟨n1 + 1, n2, n3⟩) := HCN.out.2.1 ⟨by trivial, HIW.out.1 (by trivial)⟩ hh
              have hhb : (rh == 1) = false := by simp [hh]
              clear HCN HIW
              skip
              as_aux_lemma =>
                go_wp2_with fail
                go_roundw
                case rel => exact ⟨j + 1, by omega, by go_num, by rw [HN.out], by rw [HN.out], HBY.out, by show QBox _ _ _ _ _ _ _; rw [HN.out]; exact HQY.out⟩
                case measure => simp [intOf]; omega
        · obtain rfl : j = m := by omega
          generalize cntTo rs key f t j = cn at x0 x1 x2 x3 x4 HQC HQB ⊢
          obtain ⟨n1, n2, n3⟩ := cn
          simp only at x0 x1 x2 x3 x4 HQC HQB ⊢
          have HBz := Lib.hid (ext_trans HBA.out HBj.out)
          have HOz := Lib.hid (own_keep HOA.out HBj.out)
          have hTqn : vo.ownBlock ≠ some Tq := fun e => by have := (HOA.out.lt _ e).2; have := HTQ.out; omega
          obtain ⟨hQj, z0, z1, z2, z3, z4, zf⟩ := HQB.out
          clear HBk HTK HSR3 HOA HBA
          by_cases hn1 : n1 = 0
          · have HQ2 : Hid (quals l rs f t (k + 1) = qs) := by show _ = _; rw [HQS.out, HQC.out, if_pos hn1]; simp
            subst hn1
            as_aux_lemma =>
              go_wp2_with fail
              go_roundw
              case rel => exact ⟨k + 1, by omega, by go_num, by show World.ownsRow _ _ _ _ _ _ _; rw [HQ2.out]; exact HOz.out, HBz.out⟩
              case measure => simp [intOf]; omega
          have hn0 : 0 < n1 := by omega
          obtain ⟨tk, rfl⟩ := Int.eq_ofNat_of_zero_le x3
          obtain ⟨md, hmd⟩ : ∃ md : Nat, max n2 1 = (md : Int) := Int.eq_ofNat_of_zero_le (by omega)
          have hmd0 : 1 ≤ md := by omega
          have hmd1 : md ≤ 100 := by omega
          have hq0 : 0 ≤ 1000 * n2 / n1 := Int.ediv_nonneg (by omega) (by omega)
          have hq1 : 1000 * n2 / n1 ≤ 1000 * n2 := Int.ediv_le_self _ (by omega)
          have ht1 : Int.tdiv (1000 * n2) n1 = 1000 * n2 / n1 := Int.tdiv_eq_ediv_of_nonneg (by omega)
          have HQ2 : Hid (quals l rs f t (k + 1) = qs ++ [⟨key, n1, 1000 * n2 / n1, ((tk / Nat.gcd tk md : Nat) : Int), ((md / Nat.gcd tk md : Nat) : Int)⟩]) := by
            show _ = _
            rw [HQS.out, HQC.out, if_neg hn1, hmd]
            rfl
          generalize 1000 * n2 / n1 = qd at hq0 hq1 ht1 HQ2
          have HFR := Lib.hid (fun W => lowest_any tk md (by omega) (by omega) (by omega) W)
          have v5 : IntKind.i64.wrap (1000 * n2) = 1000 * n2 := IntWalk.i64_in _ (by omega)
          have v6 : IntKind.i64.wrap qd = qd := IntWalk.i64_in _ (by omega)
          have HQG := Lib.hid (HQB.out.good qd)
          have HBG : Hid (Below w2.heap.size w2 (wr.setCell ⟨Tq, 2, none⟩ (.int .i64 qd))) := HBz.out.setCell (show w2.heap.size ≤ Tq from hw2q) _
          have HOG : Hid ((wr.setCell ⟨Tq, 2, none⟩ (.int .i64 qd)).ownsRow w2.heap.size 56 5 vo qs.length ((qs.map Qual.cells).flatten)) := own_set HOz.out hTqn
          have hQg : Tq < (wr.setCell ⟨Tq, 2, none⟩ (.int .i64 qd)).heap.size := HQG.out.lt
          clear HQC HQS HQB HBz HOz HBj
          as_aux_lemma =>
            go_upto_region 18 with (fail)
            clear z0 z1 z2 z3 z4 zf
            generalize wr.setCell ⟨Tq, 2, none⟩ (.int .i64 qd) = w6 at HQG HBG HOG hQg ⊢
            by_cases hg0 : n2 = 0
            · obtain rfl : tk = 0 := by omega
              obtain rfl : md = 1 := by omega
              subst hg0
              have HQ3 : Hid (quals l rs f t (k + 1) = qs ++ [⟨key, n1, qd, 0, 1⟩]) := HQ2.out
              have HOX := HOG
              have HBX := HBG
              clear HQ2 HOG HBG HFR
              have HPA := Lib.hid (HOX.out.alloc (.cells #[.string ⟨key.toArray⟩, .int .i64 n1, .int .i64 qd, .int .i64 0, .int .i64 1] 56))
              have hsz : w2.heap.size ≤ w6.heap.size := HBX.out.size
              obtain ⟨hlt9, z0, z1, z2, z3, z4, zf⟩ := HQG.out
              clear zf HQG
              as_aux_lemma =>
                go_wp2_with (first | (refine wpList_val rfl (bs_q1 _ _ _ 77 ⟨key.toArray⟩ n1 qd 0 1 rfl rfl) ?_) | (at_builtin; refine wpList_append_own_at _ rfl (.tmp 76) (.tmp 78) 47 rfl w2.heap.size 56 i1 _ 5 48 Tryz.underlying47 hi1 hy0 hy1 hy2 rfl (by omega) vo qs.length _ rfl HPA.out ⟨w6.heap.size, 0, none⟩ 1 1 [.string ⟨key.toArray⟩, .int .i64 n1, .int .i64 qd, .int .i64 0, .int .i64 1] rfl rfl (fun j u hj => by rw [add0]; match j, hj with | 0, hj => simp at hj; subst hj; go_simp | 1, hj => simp at hj; subst hj; go_simp | 2, hj => simp at hj; subst hj; go_simp | 3, hj => simp at hj; subst hj; go_simp | 4, hj => simp at hj; subst hj; go_simp) (by simp [Value.oneCell']) (by simp only [maxLen]; omega) (by omega) (by simp; omega) ?_; intro v9 w9 hown9 hgr9 _ _))
                have HO9 : Hid (w9.ownsRow w2.heap.size 56 5 v9 (quals l rs f t (k + 1)).length (((quals l rs f t (k + 1)).map Qual.cells).flatten)) := by
                  show World.ownsRow _ _ _ _ _ _ _
                  rw [HQ3.out, qcells_snoc, List.length_append]
                  exact hown9
                have HB9 : Hid (Below w2.heap.size w2 w9) := HBX.out.trans (upto_grown hgr9 hsz (fun b e => (HOX.out.lt b e).1))
                clear hown9 hgr9
                go_roundw
                case rel => exact ⟨k + 1, by omega, by go_num, HO9.out, HB9.out⟩
                case measure => simp [intOf]; omega
            · obtain rfl : n2 = (md : Int) := by omega
              generalize hfa : ((tk / Nat.gcd tk md : Nat) : Int) = fa at HQ2
              generalize hfb : ((md / Nat.gcd tk md : Nat) : Int) = fb at HQ2
              have HFR2 : Hid (∀ W, Calls Tryz.prog 66 #[.int .i64 (tk : Int), .int .i64 (md : Int)] W fun e w' => e = .returned (.agg #[.int .i64 fa, .int .i64 fb]) ∧ Below W.heap.size W w') := fun W => by rw [← hfa, ← hfb]; exact HFR.out W
              have HQ3 := HQ2
              clear HQ2 HFR hfa hfb
              as_aux_lemma =>
                go_wp2_with fail
                refine (HFR2.out _).mono ?_
                rintro e w7 ⟨rfl, hb7⟩
                have HQ7 := Lib.hid (HQG.out.keep hb7)
                have HB7 : Hid (Below w2.heap.size w2 w7) := ext_trans HBG.out hb7
                have HO7 := Lib.hid (own_keep HOG.out hb7)
                have HTH : Hid (w7.there Tq 3 2) := fun j hj => by
                  match j, hj with
                  | 0, _ => exact ⟨by rw [show Tq = Tq from rfl, HQ7.out.c3]; rfl, HQ7.out.fr _⟩
                  | 1, _ => exact ⟨by rw [HQ7.out.c4]; rfl, HQ7.out.fr _⟩
                have HQ8 : Hid (QBox (w7.setCells Tq 3 [.int .i64 fa, .int .i64 fb]) Tq key n1 qd fa fb) := (HQ7.out.num fa).den fb
                have HB8 : Hid (Below w2.heap.size w2 (w7.setCells Tq 3 [.int .i64 fa, .int .i64 fb])) := (HB7.out.setCell (p := ⟨Tq, 3, none⟩) hw2q _).setCell (p := ⟨Tq, 4, none⟩) hw2q _
                have HO8 : Hid ((w7.setCells Tq 3 [.int .i64 fa, .int .i64 fb]).ownsRow w2.heap.size 56 5 vo qs.length ((qs.map Qual.cells).flatten)) := own_set (own_set HO7.out hTqn) hTqn
                clear HQ7 HB7 HO7 hb7 HQG HBG HOG
                as_aux_lemma =>
                  go_upto_region 20 with (refine wpList_store_mid rfl 54 (.tmp 75) (.tmp 74) rfl Tq 3 #[.int .i64 fa, .int .i64 fb] rfl rfl HTH.out Tryz.infoFracSize (by simp [Value.oneCell']) ?_)
                  clear HTH
                  generalize World.setCells w7 Tq 3 _ = w8 at HQ8 HB8 HO8 ⊢
                  have HOX := HO8
                  have HBX := HB8
                  clear HO8 HB8
                  have HPA := Lib.hid (HOX.out.alloc (.cells #[.string ⟨key.toArray⟩, .int .i64 n1, .int .i64 qd, .int .i64 fa, .int .i64 fb] 56))
                  have hsz : w2.heap.size ≤ w8.heap.size := HBX.out.size
                  obtain ⟨hlt9, z0, z1, z2, z3, z4, zf⟩ := HQ8.out
                  clear zf HQ8
                  as_aux_lemma =>
                    go_wp2_with (first | (refine wpList_val rfl (bs_q1 _ _ _ 77 ⟨key.toArray⟩ n1 qd fa fb rfl rfl) ?_) | (at_builtin; refine wpList_append_own_at _ rfl (.tmp 76) (.tmp 78) 47 rfl w2.heap.size 56 i1 _ 5 48 Tryz.underlying47 hi1 hy0 hy1 hy2 rfl (by omega) vo qs.length _ rfl HPA.out ⟨w8.heap.size, 0, none⟩ 1 1 [.string ⟨key.toArray⟩, .int .i64 n1, .int .i64 qd, .int .i64 fa, .int .i64 fb] rfl rfl (fun j u hj => by rw [add0]; match j, hj with | 0, hj => simp at hj; subst hj; go_simp | 1, hj => simp at hj; subst hj; go_simp | 2, hj => simp at hj; subst hj; go_simp | 3, hj => simp at hj; subst hj; go_simp | 4, hj => simp at hj; subst hj; go_simp) (by simp [Value.oneCell']) (by simp only [maxLen]; omega) (by omega) (by simp; omega) ?_; intro v9 w9 hown9 hgr9 _ _))
                    have HO9 : Hid (w9.ownsRow w2.heap.size 56 5 v9 (quals l rs f t (k + 1)).length (((quals l rs f t (k + 1)).map Qual.cells).flatten)) := by
                      show World.ownsRow _ _ _ _ _ _ _
                      rw [HQ3.out, qcells_snoc, List.length_append]
                      exact hown9
                    have HB9 : Hid (Below w2.heap.size w2 w9) := HBX.out.trans (upto_grown hgr9 hsz (fun b e => (HOX.out.lt b e).1))
                    clear hown9 hgr9
                    go_roundw
                    case rel => exact ⟨k + 1, by omega, by go_num, HO9.out, HB9.out⟩
                    case measure => simp [intOf]; omega
end Go.Proofs.YtppinnjdaoaddaaGreatDoor

set_option linter.unusedVariables false
set_option linter.unusedSimpArgs false
namespace Go.Proofs.YtppinnjdaoaddaaGreatDoor
open Go.RowKit

set_option maxRecDepth 100000 in
set_option maxHeartbeats 4000000 in
theorem meaFault_any (w : World) (a : Option Addr) (n cap : Nat) (l : List Carr) (hl : CarrRow w a n l) (hcap : n ≤ cap) (a2 : Option Addr) (m cap2 : Nat) (rs : List Rcd) (hs : RcdRow w a2 m rs) (hcap2 : m ≤ cap2) (f t : Int) (hf : -2000000000000 ≤ f ∧ f ≤ 2000000000000) (ht : -2000000000000 ≤ t ∧ t ≤ 2000000000000) : Calls Tryz.prog 22 #[.slice a n cap, .slice a2 m cap2, .agg #[.int .i64 f, .int .i64 t]] w (ErrPost (recsErr l rs f t) w) := by
  have hlen := hs.len
  have hfew := hs.few
  have HC := Lib.hid (recs_cases l rs f t (by omega))
  have HWD : Hid (winErr f t = if 0 ≤ f ∧ f ≤ t ∧ t ≤ 345686400000 then 0 else 1) := rfl
  have HCR0 := Lib.hid hl
  have HSR0 := Lib.hid hs
  clear hl hs
  generalize recsErr l rs f t = R at HC ⊢
  rw [← hlen] at HC
  have HLEN := Lib.hid hlen
  clear hlen
  have hbig : ¬ (3000 : Int) < m := by omega
  go_enter Tryz.func22, Tryz.ntmps22
  go_wp2_with fail
  clear hbig
  have HB0 : Hid (Below w.heap.size w (w.alloc (.cells #[.int .i64 f, .int .i64 t] 32))) := ext_alloc (Below.refl _ _)
  have b0 : (w.alloc (.cells #[.int .i64 f, .int .i64 t] 32)).cell? ⟨w.heap.size, 0, none⟩ = some (.int .i64 f) := by go_simp
  have b1 : (w.alloc (.cells #[.int .i64 f, .int .i64 t] 32)).cell? ⟨w.heap.size, 1, none⟩ = some (.int .i64 t) := by go_simp
  have hTl : w.heap.size < (w.alloc (.cells #[.int .i64 f, .int .i64 t] 32)).heap.size := by simp
  generalize w.alloc (.cells #[.int .i64 f, .int .i64 t] 32) = W0 at HB0 b0 b1 hTl ⊢
  have HCR := Lib.hid (HCR0.out.below HB0.out)
  have HSR := Lib.hid (HSR0.out.below HB0.out)
  clear HCR0 HSR0
  generalize w.heap.size = T at b0 b1 hTl ⊢
  go_loopw [14] (fun it wr => ∃ k : Nat, k ≤ m ∧ it = .int .i64 k ∧ Hid (∀ j, j < k → recErr l rs j = 0) ∧ Hid (Below W0.heap.size W0 wr)) (fun it _ => m - (intOf it).toNat)
  case atStart => exact ⟨0, Nat.zero_le _, rfl, fun j hj => by omega, Below.refl _ _⟩
  case round =>
    obtain ⟨k, hk, rfl, HZ, HB⟩ := hrel
    have HBw := Lib.hid (ext_trans HB0.out HB.out)
    by_cases hlt : k < m
    case neg =>
      obtain rfl : k = m := by omega
      have HE := Lib.hid (HC.out.2 HZ.out)
      have d0 := (HB.out.cell (p := ⟨T, 0, none⟩) hTl).trans b0
      have d1 := (HB.out.cell (p := ⟨T, 1, none⟩) hTl).trans b1
      clear HC HZ b0 b1
      as_aux_lemma =>
        go_wp2_with fail
        refine (winF_any f t _).mono ?_
        rintro e w5 ⟨rfl, hb5⟩
        have HB5 := Lib.hid (ext_trans HBw.out hb5)
        clear hb5
        rw [← HE.out]
        go_wp2_with fail
        go_ret
        exact ⟨rfl, HB5.out⟩

    obtain ⟨b, off, rfl, hb, hc⟩ := HSR.out.at (by omega)
    obtain ⟨q0, q1, q2, q3, q4, q5, q6, q7⟩ := hc k hlt
    have c0 := (HB.out.cell (p := ⟨b, off + k * 8, none⟩) hb).trans q0
    have c1 := (HB.out.cell (p := ⟨b, off + k * 8 + 1, none⟩) hb).trans q1
    have c2 := (HB.out.cell (p := ⟨b, off + k * 8 + 2, none⟩) hb).trans q2
    have c3 := (HB.out.cell (p := ⟨b, off + k * 8 + 3, none⟩) hb).trans q3
    have c4 := (HB.out.cell (p := ⟨b, off + k * 8 + 4, none⟩) hb).trans q4
    have c5 := (HB.out.cell (p := ⟨b, off + k * 8 + 5, none⟩) hb).trans q5
    have c6 := (HB.out.cell (p := ⟨b, off + k * 8 + 6, none⟩) hb).trans q6
    have c7 := (HB.out.cell (p := ⟨b, off + k * 8 + 7, none⟩) hb).trans q7
    obtain ⟨h0, h1, h2, h3, h4, h5, h6, h7⟩ := HSR.out.each k (by rw [← HLEN.out]; exact hlt)
    have HER : Hid (recErr l rs k = if isMomB (rs.getD k noRcd).at_ = false ∨ inB (rs.getD k noRcd).talk 0 86400000 = false then 1
      else if inB (rs.getD k noRcd).how 1 4 = false then 4
      else if (rs.getD k noRcd).carrier ≠ [] ∧ hasC l (rs.getD k noRcd).carrier = false then 8
      else 0) := rfl
    have HSTOP := Lib.hid (HC.out.1 k hlt HZ.out)
    have HNX : Hid (recErr l rs k = 0 → ∀ j, j < k + 1 → recErr l rs j = 0) := fun h j hj => by
      rcases Nat.lt_succ_iff_lt_or_eq.1 hj with h9 | rfl
      · exact HZ.out j h9
      · exact h
    clear q0 q1 q2 q3 q4 q5 q6 q7 hc HZ HC
    generalize recErr l rs k = X at HER HSTOP HNX
    generalize rs.getD k noRcd = c at c0 c1 c2 c3 c4 c5 c6 c7 h0 h1 h2 h3 h4 h5 h6 h7 HER
    obtain ⟨ri, rf, rt, ra, rr, rk, rh, rc⟩ := c
    simp only at c0 c1 c2 c3 c4 c5 c6 c7 h0 h1 h2 h3 h4 h5 h6 h7 HER
    have HBA : Hid (Below w.heap.size w (wr.alloc (.cells #[.string ⟨ri.toArray⟩, .string ⟨rf.toArray⟩, .string ⟨rt.toArray⟩, .int .i64 ra, .int .i64 rr, .int .i64 rk, .int .i64 rh, .string ⟨rc.toArray⟩] 83))) := ext_alloc HBw.out
    have HBX : Hid (Below W0.heap.size W0 (wr.alloc (.cells #[.string ⟨ri.toArray⟩, .string ⟨rf.toArray⟩, .string ⟨rt.toArray⟩, .int .i64 ra, .int .i64 rr, .int .i64 rk, .int .i64 rh, .string ⟨rc.toArray⟩] 83))) := ext_alloc HB.out
    as_aux_lemma =>
      go_wp2_with fail
      refine (momF_same ra _).mono ?_
      rintro e w3 ⟨rfl, rfl⟩
      generalize isMomB ra = g1 at HER ⊢
      cases g1
      · obtain rfl : X = 1 := by rw [HER.out, if_pos (Or.inl rfl)]
        obtain rfl : R = 1 := HSTOP.out (by decide)
        clear HER HSTOP HNX
        skip
        as_aux_lemma =>
          go_wp2_with fail
          go_ret
          exact ⟨rfl, HBA.out⟩
      skip
      as_aux_lemma =>
        go_wp2_with fail
        refine (in_same rk 0 86400000 _).mono ?_
        rintro e w3 ⟨rfl, rfl⟩
        generalize inB rk 0 86400000 = g2 at HER ⊢
        cases g2
        · obtain rfl : X = 1 := by rw [HER.out, if_pos (Or.inr rfl)]
          obtain rfl : R = 1 := HSTOP.out (by decide)
          clear HER HSTOP HNX
          skip
          as_aux_lemma =>
            go_wp2_with fail
            go_ret
            exact ⟨rfl, HBA.out⟩
        have HER1 : Hid (X = if inB rh 1 4 = false then 4
          else if rc ≠ [] ∧ hasC l rc = false then 8
          else 0) := by show _ = _; rw [HER.out, if_neg (by simp)]
        clear HER
        skip
        as_aux_lemma =>
          go_wp2_with fail
          refine (in_same rh 1 4 _).mono ?_
          rintro e w3 ⟨rfl, rfl⟩
          generalize inB rh 1 4 = g3 at HER1 ⊢
          cases g3
          · obtain rfl : X = 4 := by rw [HER1.out, if_pos rfl]
            obtain rfl : R = 4 := HSTOP.out (by decide)
            clear HER1 HSTOP HNX
            skip
            as_aux_lemma =>
              go_wp2_with fail
              go_ret
              exact ⟨rfl, HBA.out⟩
          have HER2 : Hid (X = if rc ≠ [] ∧ hasC l rc = false then 8
            else 0) := by show _ = _; rw [HER1.out, if_neg (by decide)]
          clear HER1
          cases rc with
          | nil =>
            have HZ2 := Lib.hid (HNX.out (by rw [HER2.out, if_neg (fun h => h.1 rfl)]))
            clear HER2 HSTOP HNX
            skip
            as_aux_lemma =>
              go_wp2_with fail
              go_roundw
              case rel => exact ⟨k + 1, by omega, by go_num, HZ2.out, HBX.out⟩
              case measure => simp [intOf]; omega
          | cons z rc =>
            have HID : Hid (idxC l (z :: rc) < 0 ↔ hasC l (z :: rc) = false) := idxC_neg
            have HFD : Hid (∀ W a n cap, CarrRow W a n l → Calls Tryz.prog 30 #[.slice a n cap, .string ⟨(z :: rc).toArray⟩] W fun e w' => e = .returned (.int .i64 (idxC l (z :: rc))) ∧ Below W.heap.size W w') := fun W a n cap h => carrAt_any W a n cap l h (z :: rc)
            generalize idxC l (z :: rc) = D at HID HFD
            generalize hasC l (z :: rc) = g4 at HID HER2
            skip
            as_aux_lemma =>
              go_wp2_with fail
              refine (HFD.out _ a n cap (HCR.out.below HBX.out)).mono ?_
              rintro e w4 ⟨rfl, hb4⟩
              have HB4 := Lib.hid (ext_trans HBA.out hb4)
              have HX4 := Lib.hid (ext_trans HBX.out hb4)
              clear hb4 HFD
              by_cases hD : D < 0
              · obtain rfl : X = 8 := by rw [HER2.out, if_pos ⟨by simp, HID.out.1 hD⟩]
                obtain rfl : R = 8 := HSTOP.out (by decide)
                clear HER2 HSTOP HNX HID
                skip
                as_aux_lemma =>
                  go_wp2_with fail
                  go_ret
                  exact ⟨rfl, HB4.out⟩
              · have HZ2 := Lib.hid (HNX.out (by rw [HER2.out, if_neg (fun h => hD (HID.out.2 h.2))]))
                clear HER2 HSTOP HNX HID
                skip
                as_aux_lemma =>
                  go_wp2_with fail
                  go_roundw
                  case rel => exact ⟨k + 1, by omega, by go_num, HZ2.out, HX4.out⟩
                  case measure => simp [intOf]; omega
end Go.Proofs.YtppinnjdaoaddaaGreatDoor

set_option linter.unusedVariables false
namespace Go.Proofs.YtppinnjdaoaddaaGreatDoor
open Go.RowKit

theorem when_l (b : Bool) (e : Int) (w : World) : Calls Tryz.prog 15 #[.bool b, .int .i64 e] w fun r w' => r = .returned (.int .i64 (if b = true then e else 0)) ∧ w = w' := by
  cases b
  · go_enter Tryz.func15, Tryz.ntmps15
    go_wp2_with fail
    go_ret
    exact ⟨rfl, rfl⟩
  · go_enter Tryz.func15, Tryz.ntmps15
    go_wp2_with fail
    go_ret
    exact ⟨rfl, rfl⟩
end Go.Proofs.YtppinnjdaoaddaaGreatDoor
