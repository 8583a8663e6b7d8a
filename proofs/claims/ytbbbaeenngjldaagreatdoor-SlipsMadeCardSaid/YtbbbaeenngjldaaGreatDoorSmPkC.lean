/- What is proved here: lemmas and contracts for the statement, put together out of smaller texts (SlipA, EncS, WayLaw, WayOwn, SlipB, SlipC, CloneS, SortS, RefSmall, SplitPost). No condition beyond those stated. -/
import Derived.Test.YtbbbaeenngjldaaGreatDoorSmPkA
import Derived.Test.YtbbbaeenngjldaaGreatDoorSmPkB
import Derived.Laws.Runes
import Derived.Deep.QuietTactic
import Derived.BigQuiet
import Derived.IntWalk
import Derived.Lib.OwnBridge
import Derived.Deep.AppendLies
import Derived.Test.YtbbbaeenngjldaaGreatDoorShelfHas
import Derived.Lib.OthersKept
import Derived.WalkSmall
import Derived.Test.YtbbbaeenngjldaaGreatDoorShelfSlip
import Derived.Sort.OwnSorted
import Derived.Deep.MidRow
set_option linter.unusedVariables false
set_option linter.unusedSimpArgs false
namespace Go.Proofs.YtbbbaeenngjldaaGreatDoor
open Go.RowKit

theorem ext_mid (l : List UInt8) (i j : Nat) : (⟨l.toArray⟩ : ByteArray).extract i j = ⟨((l.take j).drop i).toArray⟩ := by
  rw [Lib.extract_eq]
  simp [List.drop_take]
theorem lost_bytes (s : List UInt8) (i : Nat) : ((⟨s.toArray⟩ : ByteArray).extract 0 i) ++ ((⟨s.toArray⟩ : ByteArray).extract (i + 1) s.length) = ⟨(lostAt s i).toArray⟩ := by
  rw [ext_take, extract_drop, cat_str]
  rfl
theorem turn_lists (s : List UInt8) (i : Nat) (hi : i + 1 < s.length) : turnAt s i = ((s.take i ++ (s.take (i + 2)).drop (i + 1)) ++ (s.take (i + 1)).drop i) ++ s.drop (i + 2) := by
  have h1 : (s.take (i + 2)).drop (i + 1) = [s.getD (i + 1) 0] := by
    rw [List.take_add_one, List.getElem?_eq_getElem hi]
    simp only [Option.toList_some]
    rw [List.drop_append_of_le_length (by rw [List.length_take]; omega), List.drop_eq_nil_of_le (by rw [List.length_take]; omega)]
    simp [hi]
  have h2 : (s.take (i + 1)).drop i = [s.getD i 0] := by
    rw [List.take_add_one, List.getElem?_eq_getElem (by omega)]
    simp only [Option.toList_some]
    rw [List.drop_append_of_le_length (by rw [List.length_take]; omega), List.drop_eq_nil_of_le (by rw [List.length_take]; omega)]
    simp [show i < s.length by omega]
  rw [h1, h2]
  unfold turnAt
  simp
theorem turn_bytes (s : List UInt8) (i : Nat) (hi : i + 1 < s.length) : ((((⟨s.toArray⟩ : ByteArray).extract 0 i) ++ ((⟨s.toArray⟩ : ByteArray).extract (i + 1) (i + 2))) ++ ((⟨s.toArray⟩ : ByteArray).extract i (i + 1))) ++ ((⟨s.toArray⟩ : ByteArray).extract (i + 2) s.length) = ⟨(turnAt s i).toArray⟩ := by
  rw [ext_take, ext_mid, ext_mid, extract_drop, cat_str, cat_str, cat_str, turn_lists s i hi]

set_option maxRecDepth 100000 in
set_option maxHeartbeats 2000000 in
theorem without_any (s : List UInt8) (i : Nat) (hi : i < s.length) (hs : s.length ≤ 1000) (w : World) : Calls Tryz.prog 114 #[.string ⟨s.toArray⟩, .int .i64 i] w fun e w' => e = .returned (.string ⟨(lostAt s i).toArray⟩) ∧ Below w.heap.size w w' := by
  have i1 : IntKind.i64.wrap ((i : Int) + 1) = (i : Int) + 1 := IntWalk.i64_in _ (by omega)
  have i2 : ((i : Int) + 1).toNat = i + 1 := by omega
  have i3 : (i : Int) ≤ s.length := by omega
  have i4 : (i : Int) + 1 ≤ s.length := by omega
  have i5 : (0 : Int) ≤ (i : Int) + 1 := by omega
  have HB := Lib.hid (lost_bytes s i)
  go_enter Tryz.func114, Tryz.ntmps114
  go_wp2_with fail
  go_quiet (fail)
  rw [HB.out]
  go_wp2_with fail
  go_ret
  exact ⟨rfl, (by (try show Below _ _ _); repeat (with_reducible first | exact Below.refl _ _ | assumption | exact Hid.out (by assumption) | refine ext_alloc ?_ | refine ext_drewN ?_ | refine ext_drew ?_ | refine ext_setCell ?_ (Nat.le_refl _) | refine ext_setCell ?_ (Nat.le_succ _) | refine ext_trans ?_ (by assumption) | (refine ext_setCell ?_ (by simp)) | (refine ext_setCell ?_ (by simp at *; omega))))⟩
set_option maxRecDepth 100000 in
set_option maxHeartbeats 2000000 in
theorem turned_any (s : List UInt8) (i : Nat) (hi : i + 1 < s.length) (hs : s.length ≤ 1000) (w : World) : Calls Tryz.prog 109 #[.string ⟨s.toArray⟩, .int .i64 i] w fun e w' => e = .returned (.string ⟨(turnAt s i).toArray⟩) ∧ Below w.heap.size w w' := by
  have i1 : IntKind.i64.wrap ((i : Int) + 1) = (i : Int) + 1 := IntWalk.i64_in _ (by omega)
  have i1' : IntKind.i64.wrap ((i : Int) + 2) = (i : Int) + 2 := IntWalk.i64_in _ (by omega)
  have i2 : ((i : Int) + 1).toNat = i + 1 := by omega
  have i2' : ((i : Int) + 2).toNat = i + 2 := by omega
  have i3 : (i : Int) ≤ s.length := by omega
  have i4 : (i : Int) + 1 ≤ s.length := by omega
  have i4' : (i : Int) + 2 ≤ s.length := by omega
  have i5 : (0 : Int) ≤ (i : Int) + 1 := by omega
  have i5' : (0 : Int) ≤ (i : Int) + 2 := by omega
  have i6 : (i : Int) ≤ (i : Int) + 1 := by omega
  have i7 : (i : Int) + 1 ≤ (i : Int) + 2 := by omega
  have HB := Lib.hid (turn_bytes s i hi)
  go_enter Tryz.func109, Tryz.ntmps109
  go_wp2_with fail
  go_quiet (fail)
  rw [HB.out]
  go_wp2_with fail
  go_ret
  exact ⟨rfl, (by (try show Below _ _ _); repeat (with_reducible first | exact Below.refl _ _ | assumption | exact Hid.out (by assumption) | refine ext_alloc ?_ | refine ext_drewN ?_ | refine ext_drew ?_ | refine ext_setCell ?_ (Nat.le_refl _) | refine ext_setCell ?_ (Nat.le_succ _) | refine ext_trans ?_ (by assumption) | (refine ext_setCell ?_ (by simp)) | (refine ext_setCell ?_ (by simp at *; omega))))⟩
set_option maxRecDepth 100000 in
set_option maxHeartbeats 2000000 in
theorem shorter_any (a b : List UInt8) (ha : a.length ≤ 1000) (w : World) : Calls Tryz.prog 110 #[.string ⟨a.toArray⟩, .string ⟨b.toArray⟩] w fun e w' => e = .returned (.bool (shortB a b)) ∧ Below w.heap.size w w' := by
  have HS : Hid (shortB a b = true ↔ ∃ i, i < a.length ∧ lostAt a i = b) := short_iff a b
  generalize shortB a b = R at HS ⊢
  go_enter Tryz.func110, Tryz.ntmps110
  go_wp2_with fail
  go_loopw [8] (fun iv wr => ∃ i : Nat, i ≤ a.length ∧ iv = .int .i64 i ∧ Hid (∀ j, j < i → lostAt a j ≠ b) ∧ Hid (Below w.heap.size w wr)) (fun iv _ => a.length - (intOf iv).toNat)
  case atStart => exact ⟨0, Nat.zero_le _, rfl, fun j hj => by omega, (by (try show Below _ _ _); repeat (with_reducible first | exact Below.refl _ _ | assumption | exact Hid.out (by assumption) | refine ext_alloc ?_ | refine ext_drewN ?_ | refine ext_drew ?_ | refine ext_setCell ?_ (Nat.le_refl _) | refine ext_setCell ?_ (Nat.le_succ _) | refine ext_trans ?_ (by assumption) | (refine ext_setCell ?_ (by simp)) | (refine ext_setCell ?_ (by simp at *; omega))))⟩
  case round =>
    obtain ⟨i, hi, rfl, HN, HB⟩ := hrel
    by_cases hlt : i < a.length
    · skip
      as_aux_lemma =>
        go_wp2_with fail
        refine (without_any a i hlt ha _).mono ?_
        rintro e w2 ⟨rfl, hb2⟩
        have HB2 := Lib.hid (ext_trans HB.out hb2)
        clear hb2
        by_cases he : lostAt a i = b
        · have hR : R = true := HS.out.2 ⟨i, hlt, he⟩
          subst hR
          clear HS HN
          rw [he]
          go_wp2_with fail
          go_ret
          exact ⟨rfl, HB2.out⟩
        · have HN2 : Hid (∀ j, j < i + 1 → lostAt a j ≠ b) := fun j hj => by
            rcases Nat.lt_succ_iff_lt_or_eq.1 hj with h9 | rfl
            · exact HN.out j h9
            · exact he
          clear HN
          generalize lostAt a i = z at he ⊢
          have hzb : (z == b) = false := beq_eq_false_iff_ne.2 he
          clear he
          go_wp2_with fail
          refine ⟨⟨i + 1, by omega, by go_num, HN2.out, HB2.out⟩, ?_⟩
          first | (simp [intOf]; done) | (simp [intOf]; omega)
    · have hR : R = false := by
        cases hr : R with
        | false => rfl
        | true =>
          obtain ⟨j, h1, h2⟩ := HS.out.1 hr
          exact absurd h2 (HN.out j (by omega))
      subst hR
      obtain rfl : i = a.length := by omega
      go_wp2_with fail
      go_ret
      exact ⟨rfl, HB.out⟩
/-- What Slip answers, and its error. -/
def slipV (a b : List UInt8) : Int := if digitsB a 1 30 = true ∧ digitsB b 1 30 = true then (slipP a b : Nat) else 0
def slipE (a b : List UInt8) : Int := if digitsB a 1 30 = true ∧ digitsB b 1 30 = true then 0 else 3
theorem byte_same (a b : List UInt8) (i : Nat) (ha : i < a.length) (hb : i < b.length) : ((⟨a.toArray⟩ : ByteArray)[i]'ha).toNat = ((⟨b.toArray⟩ : ByteArray)[i]'hb).toNat ↔ a.getD i 0 = b.getD i 0 := by
  have h1 : (⟨a.toArray⟩ : ByteArray)[i]'ha = a.getD i 0 := by
    rw [show a.getD i 0 = a[i] by simp [ha]]
    rfl
  have h2 : (⟨b.toArray⟩ : ByteArray)[i]'hb = b.getD i 0 := by
    rw [show b.getD i 0 = b[i] by simp [hb]]
    rfl
  rw [h1, h2]
  exact ⟨fun h => UInt8.toNat_inj.1 h, fun h => by rw [h]⟩
set_option maxRecDepth 100000 in
set_option maxHeartbeats 4000000 in
theorem slip_any (a b : List UInt8) (ha : a.length ≤ 1000) (hb : b.length ≤ 1000) (w : World) : Calls Tryz.prog 15 #[.string ⟨a.toArray⟩, .string ⟨b.toArray⟩] w fun e w' => e = .returned (.tuple #[.int .i64 (slipV a b), .int .i64 (slipE a b)]) ∧ Below w.heap.size w w' := by
  have HG : Hid (digitsB a 1 30 = true → digitsB b 1 30 = true → slipV a b = (slipP a b : Nat) ∧ slipE a b = 0) := fun h1 h2 => ⟨if_pos ⟨h1, h2⟩, if_pos ⟨h1, h2⟩⟩
  have HX : Hid (¬ (digitsB a 1 30 = true ∧ digitsB b 1 30 = true) → slipV a b = 0 ∧ slipE a b = 3) := fun h => ⟨if_neg h, if_neg h⟩
  have HP : Hid (slipP a b = if a = b then 1 else if a.length = b.length ∧ diffTo a b a.length = 1 then 2 else if a.length = b.length ∧ turnsB a b = true then 3
        else if a.length = b.length + 1 ∧ shortB a b = true then 4 else if b.length = a.length + 1 ∧ shortB b a = true then 5 else 0) := rfl
  generalize slipV a b = V at HG HX ⊢
  generalize slipE a b = E at HG HX ⊢
  generalize slipP a b = R at HG HP
  go_enter Tryz.func15, Tryz.ntmps15
  go_wp2_with fail
  refine (digitsOf_l a 1 30 _ (by omega)).mono ?_
  rintro e w1 ⟨rfl, hb1⟩
  have HB1 := Lib.hid hb1
  clear hb1
  by_cases hda : digitsB a 1 30 = true
  · rw [hda]
    go_wp2_with fail
    refine (digitsOf_l b 1 30 _ (by omega)).mono ?_
    rintro e w2 ⟨rfl, hb2⟩
    have HB2 := Lib.hid (ext_trans HB1.out hb2)
    clear hb2
    by_cases hdb : digitsB b 1 30 = true
    · rw [hdb]
      obtain ⟨rfl, rfl⟩ := HG.out hda hdb
      clear hda hdb HB1 HG HX
      by_cases hab : a = b
      · subst hab
        obtain rfl : R = 1 := by rw [HP.out, if_pos rfl]
        clear HP
        as_aux_lemma =>
          go_wp2_with fail
          go_ret2
          exact ⟨rfl, HB2.out⟩
      · have hab2 : (a == b) = false := beq_eq_false_iff_ne.2 hab
        have HP1 : Hid (R = if a.length = b.length ∧ diffTo a b a.length = 1 then 2 else if a.length = b.length ∧ turnsB a b = true then 3
        else if a.length = b.length + 1 ∧ shortB a b = true then 4 else if b.length = a.length + 1 ∧ shortB b a = true then 5 else 0) := by show _ = _; rw [HP.out, if_neg hab]
        clear HP hab
        by_cases hll : a.length = b.length
        · have HLL := Lib.hid hll
          have hlI : (a.length : Int) = b.length := by omega
          have w1' : IntKind.i64.wrap ((a.length : Int) + 1) = (a.length : Int) + 1 := IntWalk.i64_in _ (by omega)
          have w2' : IntKind.i64.wrap ((b.length : Int) + 1) = (b.length : Int) + 1 := IntWalk.i64_in _ (by omega)
          have n1 : ¬ (a.length : Int) = (b.length : Int) + 1 := by omega
          have n2 : ¬ (b.length : Int) = (a.length : Int) + 1 := by omega
          have HP2 : Hid (R = if diffTo a b a.length = 1 then 2 else if turnsB a b = true then 3 else 0) := by
            show _ = _
            rw [HP1.out]
            simp only [hll, true_and]
            rw [if_neg (show ¬ (b.length = b.length + 1 ∧ shortB a b = true) from fun h => by omega), if_neg (show ¬ (b.length = b.length + 1 ∧ shortB b a = true) from fun h => by omega)]
          clear hll HP1
          as_aux_lemma =>
            go_wp2_with fail
            clear hlI
            go_loopw [6, 27] (fun mv iv wr => ∃ i : Nat, i ≤ a.length ∧ mv = .int .i64 (diffTo a b i : Nat) ∧ iv = .int .i64 i ∧ Hid (Below w.heap.size w wr)) (fun _ iv _ => a.length - (intOf iv).toNat)
            case atStart => exact ⟨0, Nat.zero_le _, rfl, rfl, HB2.out⟩
            case round =>
              obtain ⟨i, hi, rfl, rfl, HB⟩ := hrel
              by_cases hlt : i < a.length
              · have hlt2 : i < b.length := by have := HLL.out; omega
                have hdl := diff_le a b i
                have HD : Hid (diffTo a b (i + 1) = diffTo a b i + if a.getD i 0 = b.getD i 0 then 0 else 1) := rfl
                have HQ := Lib.hid (byte_same a b i hlt hlt2)
                have wm : IntKind.i64.wrap ((diffTo a b i : Nat) + 1 : Int) = (diffTo a b i : Nat) + 1 := IntWalk.i64_in _ (by omega)
                as_aux_lemma =>
                  go_upto_region 10 with (fail)
                  go_quiet (fail)
                  have hq1 : ((⟨a.toArray⟩ : ByteArray)[i]'hlt).toNat < 256 := UInt8.toNat_lt _
                  have hq2 : ((⟨b.toArray⟩ : ByteArray)[i]'hlt2).toNat < 256 := UInt8.toNat_lt _
                  generalize ((⟨a.toArray⟩ : ByteArray)[i]'hlt).toNat = q1 at HQ hq1 ⊢
                  generalize ((⟨b.toArray⟩ : ByteArray)[i]'hlt2).toNat = q2 at HQ hq2 ⊢
                  by_cases hq : q1 = q2
                  · have HD2 : Hid (diffTo a b (i + 1) = diffTo a b i) := by show _ = _; rw [HD.out, if_pos (HQ.out.1 hq), Nat.add_zero]
                    subst hq
                    clear HD HQ
                    generalize diffTo a b i = m at HD2 hdl wm ⊢
                    go_wp2_with fail
                    refine ⟨⟨i + 1, by omega, by rw [HD2.out], by go_num, (by (try show Below _ _ _); repeat (with_reducible first | exact Below.refl _ _ | assumption | exact Hid.out (by assumption) | refine ext_alloc ?_ | refine ext_drewN ?_ | refine ext_drew ?_ | refine ext_setCell ?_ (Nat.le_refl _) | refine ext_setCell ?_ (Nat.le_succ _) | refine ext_trans ?_ (by assumption) | (refine ext_setCell ?_ (by simp)) | (refine ext_setCell ?_ (by simp at *; omega))))⟩, ?_⟩
                    first | (simp [intOf]; done) | (simp [intOf]; omega)
                  · have HD2 : Hid (diffTo a b (i + 1) = diffTo a b i + 1) := by show _ = _; rw [HD.out, if_neg (fun h => hq (HQ.out.2 h))]
                    have hqI : ¬ (q1 : Int) = q2 := by omega
                    clear HD HQ hq
                    generalize diffTo a b i = m at HD2 hdl wm ⊢
                    go_wp2_with fail
                    refine ⟨⟨i + 1, by omega, by rw [HD2.out]; go_num, by go_num, (by (try show Below _ _ _); repeat (with_reducible first | exact Below.refl _ _ | assumption | exact Hid.out (by assumption) | refine ext_alloc ?_ | refine ext_drewN ?_ | refine ext_drew ?_ | refine ext_setCell ?_ (Nat.le_refl _) | refine ext_setCell ?_ (Nat.le_succ _) | refine ext_trans ?_ (by assumption) | (refine ext_setCell ?_ (by simp)) | (refine ext_setCell ?_ (by simp at *; omega))))⟩, ?_⟩
                    first | (simp [intOf]; done) | (simp [intOf]; omega)
              · obtain rfl : i = a.length := by omega
                have hxx := HLL.out
                have hex : ¬ a.length < b.length := by omega
                have hex2 : ¬ (a.length : Int) < b.length := by omega
                have hdl := diff_le a b a.length
                by_cases hd1 : diffTo a b a.length = 1
                · obtain rfl : R = 2 := by rw [HP2.out, if_pos hd1]
                  rw [hd1]
                  clear HP2 hdl hd1 hxx
                  as_aux_lemma =>
                    go_wp2_with fail
                    go_ret2
                    exact ⟨rfl, HB.out⟩
                · have HP3 : Hid (R = if turnsB a b = true then 3 else 0) := by show _ = _; rw [HP2.out, if_neg hd1]
                  have hd1I : ¬ ((diffTo a b a.length : Nat) : Int) = 1 := by omega
                  have HT : Hid (turnsB a b = true ↔ ∃ i, i + 1 < a.length ∧ turnAt a i = b) := by
                    show _ ↔ _
                    rw [turns_iff, mem_turn]
                    exact ⟨fun ⟨i, h1, h2⟩ => ⟨i, h1, h2.symm⟩, fun ⟨i, h1, h2⟩ => ⟨i, h1, h2.symm⟩⟩
                  generalize turnsB a b = T at HP3 HT
                  generalize diffTo a b a.length = m at hd1I
                  clear HP2 hdl hd1 hxx
                  as_aux_lemma =>
                    go_wp2_with fail
                    obtain ⟨wi, rfl⟩ : ∃ wi : World, wi = wr := ⟨_, rfl⟩
                    go_loopw [8] (fun iv wr => ∃ i : Nat, i ≤ a.length ∧ iv = .int .i64 i ∧ Hid (∀ j, j < i → turnAt a j ≠ b) ∧ Hid (Below w.heap.size w wr)) (fun iv _ => a.length - (intOf iv).toNat)
                    case atStart => exact ⟨0, Nat.zero_le _, rfl, fun j hj => by omega, HB.out⟩
                    case round =>
                      obtain ⟨i, hi, rfl, HN, HB5⟩ := hrel
                      have wi1 : IntKind.i64.wrap ((i : Int) + 1) = (i : Int) + 1 := IntWalk.i64_in _ (by omega)
                      by_cases hlt : i + 1 < a.length
                      · have hltI : (i : Int) + 1 < a.length := by omega
                        as_aux_lemma =>
                          go_wp2_with fail
                          refine (turned_any a i hlt ha _).mono ?_
                          rintro e w4 ⟨rfl, hb4⟩
                          have HB4 := Lib.hid (ext_trans HB5.out hb4)
                          clear hb4
                          by_cases he : turnAt a i = b
                          · obtain rfl : T = true := HT.out.2 ⟨i, hlt, he⟩
                            obtain rfl : R = 3 := by rw [HP3.out, if_pos rfl]
                            clear HP3 HT HN
                            rw [he]
                            go_wp2_with fail
                            go_ret2
                            exact ⟨rfl, HB4.out⟩
                          · have HN2 : Hid (∀ j, j < i + 1 → turnAt a j ≠ b) := fun j hj => by
                              rcases Nat.lt_succ_iff_lt_or_eq.1 hj with h9 | rfl
                              · exact HN.out j h9
                              · exact he
                            clear HN
                            generalize turnAt a i = z at he ⊢
                            have hzb : (z == b) = false := beq_eq_false_iff_ne.2 he
                            clear he
                            go_wp2_with fail
                            go_roundw
                            case rel =>
                              exact ⟨i + 1, by omega, by go_num, HN2.out, HB4.out⟩
                            case measure => first | (simp [intOf]; done) | (simp [intOf]; omega)
                      · have hltI : ¬ (i : Int) + 1 < a.length := by omega
                        have hT : T = false := by
                          cases hr : T with
                          | false => rfl
                          | true =>
                            obtain ⟨j, h1, h2⟩ := HT.out.1 hr
                            exact absurd h2 (HN.out j (by omega))
                        subst hT
                        obtain rfl : R = 0 := by rw [HP3.out, if_neg (by decide)]
                        clear HP3 HT HN
                        as_aux_lemma =>
                          go_wp2_with fail
                          go_ret2
                          exact ⟨rfl, HB5.out⟩
        · have hlI : ¬ (a.length : Int) = b.length := by omega
          have w1' : IntKind.i64.wrap ((a.length : Int) + 1) = (a.length : Int) + 1 := IntWalk.i64_in _ (by omega)
          have w2' : IntKind.i64.wrap ((b.length : Int) + 1) = (b.length : Int) + 1 := IntWalk.i64_in _ (by omega)
          have HP2 : Hid (R = if a.length = b.length + 1 ∧ shortB a b = true then 4 else if b.length = a.length + 1 ∧ shortB b a = true then 5 else 0) := by
            show _ = _
            rw [HP1.out, if_neg (fun h => hll h.1), if_neg (fun h => hll h.1)]
          clear HP1
          by_cases h1 : a.length = b.length + 1
          · have h1I : (a.length : Int) = (b.length : Int) + 1 := by omega
            have n2 : ¬ (b.length : Int) = (a.length : Int) + 1 := by omega
            have HP3 : Hid (R = if shortB a b = true then 4 else 0) := by
              show _ = _
              rw [HP2.out]
              simp only [h1, true_and]
              rw [if_neg (show ¬ (b.length = b.length + 1 + 1 ∧ shortB b a = true) from fun h => by omega)]
            clear hll HP2 h1
            as_aux_lemma =>
              go_wp2_with fail
              refine (shorter_any a b ha _).mono ?_
              rintro e w3 ⟨rfl, hb3⟩
              have HB3 := Lib.hid (ext_trans HB2.out hb3)
              clear hb3
              cases hs : shortB a b with
              | true =>
                obtain rfl : R = 4 := by rw [HP3.out, if_pos hs]
                go_wp2_with fail
                go_ret2
                exact ⟨rfl, HB3.out⟩
              | false =>
                obtain rfl : R = 0 := by rw [HP3.out, if_neg (by rw [hs]; decide)]
                go_wp2_with fail
                go_ret2
                exact ⟨rfl, HB3.out⟩
          · have n1 : ¬ (a.length : Int) = (b.length : Int) + 1 := by omega
            have HP3 : Hid (R = if b.length = a.length + 1 ∧ shortB b a = true then 5 else 0) := by
              show _ = _
              rw [HP2.out, if_neg (fun h => h1 h.1)]
            clear h1 HP2
            by_cases h2 : b.length = a.length + 1
            · have h2I : (b.length : Int) = (a.length : Int) + 1 := by omega
              have HP4 : Hid (R = if shortB b a = true then 5 else 0) := by
                show _ = _
                rw [HP3.out]
                simp only [h2, true_and]
              clear hll HP3 h2
              as_aux_lemma =>
                go_wp2_with fail
                refine (shorter_any b a hb _).mono ?_
                rintro e w3 ⟨rfl, hb3⟩
                have HB3 := Lib.hid (ext_trans HB2.out hb3)
                clear hb3
                cases hs : shortB b a with
                | true =>
                  obtain rfl : R = 5 := by rw [HP4.out, if_pos hs]
                  go_wp2_with fail
                  go_ret2
                  exact ⟨rfl, HB3.out⟩
                | false =>
                  obtain rfl : R = 0 := by rw [HP4.out, if_neg (by rw [hs]; decide)]
                  go_wp2_with fail
                  go_ret2
                  exact ⟨rfl, HB3.out⟩
            · have n2 : ¬ (b.length : Int) = (a.length : Int) + 1 := by omega
              obtain rfl : R = 0 := by rw [HP3.out, if_neg (fun h => h2 h.1)]
              clear hll HP3 h2
              as_aux_lemma =>
                go_wp2_with fail
                go_ret2
                exact ⟨rfl, HB2.out⟩
    · obtain ⟨rfl, rfl⟩ := HX.out (fun h => hdb h.2)
      rw [show digitsB b 1 30 = false by simpa using hdb]
      clear HG HX HP hdb hda
      as_aux_lemma =>
        go_wp2_with fail
        go_ret2
        exact ⟨rfl, HB2.out⟩
  · obtain ⟨rfl, rfl⟩ := HX.out (fun h => hda h.1)
    rw [show digitsB a 1 30 = false by simpa using hda]
    clear HG HX HP hda
    as_aux_lemma =>
      go_wp2_with fail
      go_ret2
      exact ⟨rfl, HB1.out⟩
end Go.Proofs.YtbbbaeenngjldaaGreatDoor

set_option linter.unusedVariables false
set_option linter.unusedSimpArgs false
namespace Go.Proofs.YtbbbaeenngjldaaGreatDoor
open Go.RowKit

def encS (x : List UInt8) : Value := .string ⟨x.toArray⟩
end Go.Proofs.YtbbbaeenngjldaaGreatDoor

set_option linter.unusedVariables false
set_option linter.unusedSimpArgs false
namespace Go.Proofs.YtbbbaeenngjldaaGreatDoor
open Go.RowKit

/-- A country of a plan, with an area of a home in it. -/
structure HomeIn (l : List Ctry) (c : Ctry) (area : List UInt8) : Prop where
  here : ∃ k, k < l.length ∧ l.getD k noCtry = c
  area : area = [] ∨ ∃ z, z < c.areas.length ∧ (c.areas.getD z noArea).pre = area
theorem homeIn_of {l : List Ctry} {code area : List UInt8} {c : Ctry} (h : homeC l code area = some c) : HomeIn l c area := by
  unfold homeC at h
  have hp := List.find?_some h
  obtain ⟨k, hk, hkc⟩ := List.getElem_of_mem (List.mem_of_find?_eq_some h)
  simp only [Bool.and_eq_true, Bool.or_eq_true, beq_iff_eq, List.any_eq_true] at hp
  refine ⟨⟨k, hk, by simpa [hk] using hkc⟩, hp.2.imp id ?_⟩
  rintro ⟨a, ha, rfl⟩
  obtain ⟨z, hz, rfl⟩ := List.getElem_of_mem ha
  exact ⟨z, hz, by simp [hz]⟩

def triesL (l : List Ctry) (c : Ctry) (area n : List UInt8) : List (List UInt8) :=
  (c.abroad ++ n.drop 1) :: (if (splitP l n).code = c.code then (c.trunk ++ ((splitP l n).area ++ (splitP l n).rest)) :: (if area = (splitP l n).area ∧ c.trunk ≠ [] then [(splitP l n).rest] else []) else [])
def waysL (l : List Ctry) (c : Ctry) (area n : List UInt8) : List (List UInt8) :=
  (c.abroad ++ n.drop 1) :: (if (splitP l n).code = c.code then (c.trunk ++ ((splitP l n).area ++ (splitP l n).rest)) :: (if (area = (splitP l n).area ∧ c.trunk ≠ []) ∧ reachP l c area (splitP l n).rest = (0, n) then [(splitP l n).rest] else []) else [])

theorem way_abroad {l : List Ctry} {c : Ctry} {area n : List UInt8} (hE : planErr l = 0) (hH : HomeIn l c area) (hS : (splitP l n).err = 0) : reachP l c area (c.abroad ++ n.drop 1) = (0, n) := by
  obtain ⟨i, j, so⟩ := split_ok hS
  obtain ⟨k, hk, rfl⟩ := hH.here
  obtain ⟨-, -, ha, -, -⟩ := ctry_form (plan_ctry hE k hk)
  obtain ⟨a1, a2, a3⟩ := (digitsB_iff _ _ _).1 ha
  obtain ⟨d1, d2, d3⟩ := (digitsB_iff _ _ _).1 so.digits
  have hd : digitsB ((l.getD k noCtry).abroad ++ n.drop 1) 1 30 = true := by
    rw [digitsB_iff, digs_app, a3, d3, List.length_append]
    exact ⟨by omega, by omega, rfl⟩
  have hn : n = 43 :: n.drop 1 := by rw [so.form]; rfl
  unfold reachP
  rw [if_neg (by rw [hd]; exact Bool.noConfusion)]
  unfold reachN
  rw [if_pos (pre_append _ _), List.drop_left]
  simp only [← hn, hS, ne_eq, not_true_eq_false, if_false]
theorem same_ctry {l : List Ctry} {c : Ctry} {area n : List UInt8} (hE : planErr l = 0) (hH : HomeIn l c area) (hS : (splitP l n).err = 0) {i j : Nat} (so : SplitOk l n i j) (hc : (splitP l n).code = c.code) : l.getD i noCtry = c := by
  obtain ⟨k, hk, rfl⟩ := hH.here
  by_cases h : i = k
  · rw [h]
  · exact absurd (so.code.symm.trans hc) (codes_apart hE so.li hk h)
theorem trunk_clash {l : List Ctry} {c : Ctry} {area n : List UInt8} (hE : planErr l = 0) (hH : HomeIn l c area) (hS : (splitP l n).err = 0) {i j : Nat} (so : SplitOk l n i j) (hc : (splitP l n).code = c.code) : Lib.hasPrefix (c.trunk ++ ((splitP l n).area ++ (splitP l n).rest)) c.abroad = false ∧ 1 ≤ (splitP l n).area.length ∧ 1 ≤ (splitP l n).rest.length := by
  have hi := same_ctry hE hH hS so hc
  obtain ⟨g1, g2, g3, g4, g5, g6, g7⟩ := area_parts (plan_area hE i so.li j so.lj)
  obtain ⟨a1, a2, a3⟩ := (digitsB_iff _ _ _).1 g1
  have hl := so.low
  rw [hi] at g2 g3 g4 g5 g6 g7 a1 a2 a3 hl
  have har := so.area
  rw [hi] at har
  rw [har]
  refine ⟨?_, by omega, by omega⟩
  cases hq : Lib.hasPrefix (c.trunk ++ ((c.areas.getD j noArea).pre ++ (splitP l n).rest)) c.abroad with
  | false => rfl
  | true =>
    rw [← List.append_assoc] at hq
    rcases pre_or hq with h | h
    · rw [g2] at h; cases h
    · rw [g3] at h; cases h
theorem way_trunk {l : List Ctry} {c : Ctry} {area n : List UInt8} (hE : planErr l = 0) (hH : HomeIn l c area) (hS : (splitP l n).err = 0) (hc : (splitP l n).code = c.code) : reachP l c area (c.trunk ++ ((splitP l n).area ++ (splitP l n).rest)) = (0, n) := by
  obtain ⟨i, j, so⟩ := split_ok hS
  have hi := same_ctry hE hH hS so hc
  obtain ⟨t1, t2, t3⟩ := trunk_clash hE hH hS so hc
  have hf := so.form
  have har := so.area
  have hlow := so.low
  have hhigh := so.high
  obtain ⟨g1, g2, g3, g4, g5, g6, g7⟩ := area_parts (plan_area hE i so.li j so.lj)
  obtain ⟨-, -, -, ht, -⟩ := ctry_form (plan_ctry hE i so.li)
  rw [hi] at hf har hlow hhigh g6 ht g4
  obtain ⟨q1, q2, q3⟩ := (digitsB_iff _ _ _).1 ht
  obtain ⟨d1, d2, d3⟩ := (digitsB_iff _ _ _).1 so.digits
  have hdn : n.drop 1 = c.code ++ ((splitP l n).area ++ (splitP l n).rest) := by rw [har]; exact (congrArg (List.drop 1) hf).trans rfl
  rw [hdn, digs_app, Bool.and_eq_true] at d3
  have hd : digitsB (c.trunk ++ ((splitP l n).area ++ (splitP l n).rest)) 1 30 = true := by
    rw [digitsB_iff, digs_app, q3, d3.2, List.length_append, List.length_append, har]
    rw [har] at t2
    exact ⟨by omega, by omega, rfl⟩
  have hn : n = 43 :: (c.code ++ ((splitP l n).area ++ (splitP l n).rest)) := by rw [har]; exact hf
  unfold reachP
  rw [if_neg (by rw [hd]; exact Bool.noConfusion)]
  unfold reachN
  rw [if_neg (by simp [t1]), if_pos (pre_append _ _), List.drop_left]
  simp only [← hn, hS, ne_eq, not_true_eq_false, if_false]

theorem ways_apart {l : List Ctry} {c : Ctry} {area n : List UInt8} (hE : planErr l = 0) (hH : HomeIn l c area) (hS : (splitP l n).err = 0) (hc : (splitP l n).code = c.code) : c.trunk ++ ((splitP l n).area ++ (splitP l n).rest) ≠ c.abroad ++ n.drop 1 ∧ (splitP l n).rest ≠ c.trunk ++ ((splitP l n).area ++ (splitP l n).rest) ∧ (splitP l n).rest ≠ c.abroad ++ n.drop 1 := by
  obtain ⟨i, j, so⟩ := split_ok hS
  obtain ⟨t1, t2, t3⟩ := trunk_clash hE hH hS so hc
  have hi := same_ctry hE hH hS so hc
  have har := so.area
  have hf := so.form
  rw [hi] at hf har
  refine ⟨fun h => ?_, fun h => ?_, fun h => ?_⟩
  · rw [h, pre_append] at t1; cases t1
  · have := congrArg List.length h
    simp only [List.length_append] at this
    omega
  · have := congrArg List.length h
    have h9 := congrArg List.length ((congrArg (List.drop 1) hf).trans rfl : n.drop 1 = c.code ++ ((c.areas.getD j noArea).pre ++ (splitP l n).rest))
    simp only [List.length_append] at this h9
    rw [har] at t2
    omega

def stepW (l : List Ctry) (c : Ctry) (area n : List UInt8) (out : List (List UInt8)) (s : List UInt8) : List (List UInt8) := if reachP l c area s = (0, n) ∧ s ∉ out then out ++ [s] else out
theorem tries_fold {l : List Ctry} {c : Ctry} {area n : List UInt8} (hE : planErr l = 0) (hH : HomeIn l c area) (hS : (splitP l n).err = 0) : (triesL l c area n).foldl (stepW l c area n) [] = waysL l c area n := by
  have h1 := way_abroad hE hH hS
  unfold triesL waysL
  rw [List.foldl_cons]
  have e1 : stepW l c area n [] (c.abroad ++ n.drop 1) = [c.abroad ++ n.drop 1] := by unfold stepW; rw [if_pos ⟨h1, by simp⟩]; rfl
  rw [e1]
  by_cases hc : (splitP l n).code = c.code
  · have h2 := way_trunk hE hH hS hc
    obtain ⟨a1, a2, a3⟩ := ways_apart hE hH hS hc
    rw [if_pos hc, if_pos hc, List.foldl_cons]
    have e2 : stepW l c area n [c.abroad ++ n.drop 1] (c.trunk ++ ((splitP l n).area ++ (splitP l n).rest)) = [c.abroad ++ n.drop 1, c.trunk ++ ((splitP l n).area ++ (splitP l n).rest)] := by
      unfold stepW
      rw [if_pos ⟨h2, by simpa using a1⟩]
      rfl
    rw [e2]
    by_cases h3 : area = (splitP l n).area ∧ c.trunk ≠ []
    · rw [if_pos h3, List.foldl_cons, List.foldl_nil]
      unfold stepW
      by_cases h4 : reachP l c area (splitP l n).rest = (0, n)
      · rw [if_pos ⟨h4, fun hm => by rcases List.mem_cons.1 hm with h | hm; exact a3 h; rcases List.mem_cons.1 hm with h | hm; exact a2 h; cases hm⟩, if_pos ⟨h3, h4⟩]; rfl
      · rw [if_neg (fun h => h4 h.1), if_neg (fun h => h4 h.2)]
    · rw [if_neg h3, if_neg (fun h => h3 h.1), List.foldl_nil]
  · rw [if_neg hc, if_neg hc, List.foldl_nil]
theorem tries_filter {l : List Ctry} {c : Ctry} {area n : List UInt8} (hE : planErr l = 0) (hH : HomeIn l c area) (hS : (splitP l n).err = 0) : (triesL l c area n).filter (fun s => decide (reachP l c area s = (0, n))) = waysL l c area n := by
  have h1 := way_abroad hE hH hS
  unfold triesL waysL
  rw [List.filter_cons_of_pos (by simpa using h1)]
  by_cases hc : (splitP l n).code = c.code
  · have h2 := way_trunk hE hH hS hc
    rw [if_pos hc, if_pos hc, List.filter_cons_of_pos (by simpa using h2)]
    by_cases h3 : area = (splitP l n).area ∧ c.trunk ≠ []
    · rw [if_pos h3]
      by_cases h4 : reachP l c area (splitP l n).rest = (0, n)
      · rw [if_pos ⟨h3, h4⟩]; simp [h4]
      · rw [if_neg (fun h => h4 h.2)]; simp [h4]
    · rw [if_neg h3, if_neg (fun h => h3 h.1)]; rfl
  · rw [if_neg hc, if_neg hc]; rfl
theorem tries_but {l : List Ctry} {c : Ctry} {area n : List UInt8} (hE : planErr l = 0) (hH : HomeIn l c area) (hS : (splitP l n).err = 0) : ∀ j, j + 1 < (triesL l c area n).length → reachP l c area ((triesL l c area n).getD j []) = (0, n) ∨ j = 1 + 1 := by
  have h1 := way_abroad hE hH hS
  intro j hj
  unfold triesL at hj ⊢
  by_cases hc : (splitP l n).code = c.code
  · have h2 := way_trunk hE hH hS hc
    rw [if_pos hc] at hj ⊢
    match j, hj with
    | 0, _ => exact Or.inl h1
    | 1, _ => exact Or.inl h2
    | 2, _ => exact Or.inr rfl
    | j + 3, hj =>
      exfalso
      have h9 : (if area = (splitP l n).area ∧ c.trunk ≠ [] then [(splitP l n).rest] else []).length ≤ 1 := by split <;> simp
      simp only [List.length_cons] at hj
      omega
  · rw [if_neg hc] at hj; simp at hj

theorem tries_split {l : List Ctry} {c : Ctry} {area n : List UInt8} (hE : planErr l = 0) (hH : HomeIn l c area) (hS : (splitP l n).err = 0) : ∃ ys z, triesL l c area n = ys ++ [z] ∧ ∀ y ∈ ys, reachP l c area y = (0, n) := by
  have h1 := way_abroad hE hH hS
  unfold triesL
  by_cases hc : (splitP l n).code = c.code
  · have h2 := way_trunk hE hH hS hc
    rw [if_pos hc]
    by_cases h3 : area = (splitP l n).area ∧ c.trunk ≠ []
    · rw [if_pos h3]
      refine ⟨[c.abroad ++ n.drop 1, c.trunk ++ ((splitP l n).area ++ (splitP l n).rest)], _, rfl, fun y hy => ?_⟩
      rcases List.mem_cons.1 hy with rfl | hy
      · exact h1
      · rcases List.mem_cons.1 hy with rfl | hy
        · exact h2
        · cases hy
    · rw [if_neg h3]
      refine ⟨[c.abroad ++ n.drop 1], _, rfl, fun y hy => ?_⟩
      rcases List.mem_cons.1 hy with rfl | hy
      · exact h1
      · cases hy
  · rw [if_neg hc]
    exact ⟨[], _, rfl, fun y hy => by cases hy⟩
/-! ### How the reference asks -/
theorem ref_code {l : List Ctry} {c : Ctry} {area n : List UInt8} (hE : planErr l = 0) (hH : HomeIn l c area) (hS : (splitP l n).err = 0) : Lib.hasPrefix n (43 :: c.code) = decide ((splitP l n).code = c.code) := by
  obtain ⟨i, j, so⟩ := split_ok hS
  have hf := so.form
  by_cases hc : (splitP l n).code = c.code
  · have hi := same_ctry hE hH hS so hc
    rw [hi] at hf
    rw [decide_eq_true hc, pre_iff]
    conv => rhs; rw [hf]
    exact List.cons_prefix_cons.2 ⟨rfl, List.prefix_append _ _⟩
  · rw [decide_eq_false hc]
    cases hq : Lib.hasPrefix n (43 :: c.code) with
    | false => rfl
    | true =>
      exfalso
      obtain ⟨k, hk, rfl⟩ := hH.here
      rw [pre_iff] at hq
      generalize hr : (splitP l n).rest = r at hf
      rw [hf] at hq
      have hq2 := (List.cons_prefix_cons.1 hq).2
      have hal := plan_alone hE ((l.getD i noCtry).code ++ (((l.getD i noCtry).areas.getD j noArea).pre ++ r))
      rw [List.pairwise_iff_getElem] at hal
      have h1 : Lib.hasPrefix ((l.getD i noCtry).code ++ (((l.getD i noCtry).areas.getD j noArea).pre ++ r)) (l.getD i noCtry).code = true := pre_append _ _
      have h2 : Lib.hasPrefix ((l.getD i noCtry).code ++ (((l.getD i noCtry).areas.getD j noArea).pre ++ r)) (l.getD k noCtry).code = true := (pre_iff _ _).2 hq2
      have hli := so.li
      have ei : l[i] = l.getD i noCtry := by simp [hli]
      have ek : l[k] = l.getD k noCtry := by simp [hk]
      rcases Nat.lt_trichotomy i k with h | rfl | h
      · have := hal i k hli hk h (by rw [ei]; exact h1)
        rw [ek, h2] at this; cases this
      · exact hc so.code
      · have := hal k i hk hli h (by rw [ek]; exact h2)
        rw [ei, h1] at this; cases this
theorem ref_nat {l : List Ctry} {c : Ctry} {area n : List UInt8} (hE : planErr l = 0) (hH : HomeIn l c area) (hS : (splitP l n).err = 0) (hc : (splitP l n).code = c.code) : n.drop (43 :: c.code).length = (splitP l n).area ++ (splitP l n).rest := by
  obtain ⟨i, j, so⟩ := split_ok hS
  have hf := so.form
  have hi := same_ctry hE hH hS so hc
  have har := so.area
  rw [hi] at hf har
  conv => lhs; rw [hf]
  rw [har, List.length_cons, List.drop_succ_cons, List.drop_left]
theorem ref_area {l : List Ctry} {c : Ctry} {area n : List UInt8} (hE : planErr l = 0) (hH : HomeIn l c area) (hS : (splitP l n).err = 0) (hc : (splitP l n).code = c.code) : (Lib.hasPrefix ((splitP l n).area ++ (splitP l n).rest) area = true ∧ area ≠ []) ↔ area = (splitP l n).area := by
  obtain ⟨i, j, so⟩ := split_ok hS
  have hi := same_ctry hE hH hS so hc
  obtain ⟨t1, t2, t3⟩ := trunk_clash hE hH hS so hc
  have har := so.area
  have hlj := so.lj
  rw [hi] at har hlj
  constructor
  · rintro ⟨h1, h2⟩
    rcases hH.area with h | ⟨z, hz, rfl⟩
    · exact absurd h h2
    · rw [har] at h1 ⊢
      have hall : ∀ z, z < c.areas.length → areaErr c z = 0 := by
        obtain ⟨k, hk, rfl⟩ := hH.here
        exact plan_area hE k hk
      rcases pre_or h1 with h | h
      · rw [areas_apart hall hz hlj h]
      · rw [areas_apart hall hlj hz h]
  · rintro rfl
    exact ⟨pre_append _ _, fun h => by rw [h] at t2; simp at t2⟩
end Go.Proofs.YtbbbaeenngjldaaGreatDoor

set_option linter.unusedVariables false
set_option linter.unusedSimpArgs false
namespace Go.Proofs.YtbbbaeenngjldaaGreatDoor
open Go.RowKit

theorem Tryz.infoStr : (Tryz.prog.info? 9).map (fun i => (i.zero, i.size, i.bytes)) = some (some (.string ⟨#[]⟩), 1, 16) := by kernel_rfl
theorem mk_inj {a b : List UInt8} : ((⟨a.toArray⟩ : ByteArray) = ⟨b.toArray⟩) ↔ a = b := by simp
theorem contains_own {w : World} {base : Nat} {v : Value} {n : Nat} {out : List (List UInt8)} (h : w.ownsRow base 9 1 v n (out.map encS)) (hn : n ≤ 1000) (s : List UInt8) :
    Calls Tryz.prog 118 #[v, .string ⟨s.toArray⟩] w fun e w' => e = .returned (.bool (decide (s ∈ out))) ∧ w' = w := by
  have hl : out.length = n := by have := h.1; simpa using this
  rcases h.2 with ⟨rfl, h0⟩ | ⟨g, cap, cur, rfl, _⟩
  · have : out = [] := List.eq_nil_of_length_eq_zero (by omega)
    subst this h0
    refine (Tryz.slices_hasS_empty none 0 _ w).mono ?_
    rintro e w' ⟨rfl, rfl⟩
    exact ⟨by simp, rfl⟩
  · refine (Tryz.slices_hasS g 0 n cap (out.map fun x => ⟨x.toArray⟩) ⟨s.toArray⟩ w (by simp; omega) (by omega) (fun j hj => ?_)).mono ?_
    · have hj' : j < out.length := by simpa using hj
      rw [Nat.zero_add, h.cellAt j (by omega)]
      simp [encS, hj']
    · rintro e w' ⟨rfl, rfl⟩
      refine ⟨?_, rfl⟩
      rw [List.take_of_length_le (by simp; omega)]
      congr 2
      rw [Bool.eq_iff_iff, Lib.containsS_iff, decide_eq_true_eq]
      simp
/-- A slice of one string that is written out. -/
theorem own_lit1 (w : World) (x : List UInt8) (base : Nat) (hb : base ≤ w.heap.size) : (w.alloc (.cells #[.string ⟨x.toArray⟩] 9)).ownsRow base 9 1 (.slice (some ⟨w.heap.size, 0, none⟩) 1 1) 1 ([x].map encS) := World.ownsRow_lit w #[.string ⟨x.toArray⟩] 1 hb (by simp only [maxLen]; omega) rfl
theorem own_keep {w w' : World} {base e size : Nat} {v : Value} {n : Nat} {xs : List Value} (h : w.ownsRow base e size v n xs) (hb : Below w.heap.size w w') : w'.ownsRow base e size v n xs := by
  refine ⟨h.1, h.2.imp id ?_⟩
  rintro ⟨g, cap, cur, rfl, h1, h2, h3⟩
  exact ⟨g, cap, cur, rfl, h1, (hb.block g (Array.getElem?_eq_some_iff.1 h2).1).trans h2, h3⟩
theorem own_below {w w' : World} {base B e size : Nat} {v : Value} {n : Nat} {xs : List Value} (h : w.ownsRow base e size v n xs) (hb : Below B w w') (hv : ∀ g, v.ownBlock = some g → g < B) : w'.ownsRow base e size v n xs := by
  refine ⟨h.1, h.2.imp id ?_⟩
  rintro ⟨g, cap, cur, rfl, h1, h2, h3⟩
  exact ⟨g, cap, cur, rfl, h1, (hb.block g (hv g rfl)).trans h2, h3⟩
theorem own_row1 {w : World} {base : Nat} {e : TypeId} {size : Nat} {v : Value} {n : Nat} {xs : List Value} (h : w.ownsRow base e size v (n + 1) xs) : ∃ g c, v = .slice (some ⟨g, 0, none⟩) (n + 1) c ∧ base ≤ g ∧ g < w.heap.size := by
  rcases h.2 with ⟨_, h0⟩ | ⟨g, cap, cur, rfl, h1, h2, _⟩
  · cases h0
  · exact ⟨g, cap, rfl, h1, (Array.getElem?_eq_some_iff.1 h2).1⟩

theorem own_le {w : World} {base base' e size : Nat} {v : Value} {n : Nat} {xs : List Value} (h : w.ownsRow base e size v n xs) (hb : base' ≤ base) : w.ownsRow base' e size v n xs := by
  refine ⟨h.1, h.2.imp id ?_⟩
  rintro ⟨g, cap, cur, rfl, h1, h2⟩
  exact ⟨g, cap, cur, rfl, Nat.le_trans hb h1, h2⟩
theorem own_shape {w : World} {base : Nat} {e : TypeId} {size : Nat} {v : Value} {n : Nat} {xs : List Value} (h : w.ownsRow base e size v n xs) : ∃ a c, v = .slice a n c := by
  rcases h.2 with ⟨rfl, rfl⟩ | ⟨g, cap, cur, rfl, _⟩
  · exact ⟨none, 0, rfl⟩
  · exact ⟨_, _, rfl⟩
theorem wp_made {P : Program} {o : Oper} {a : Act} {w w' : World} {v : Value} {K : Act → World → Prop} {Q : Exit → Act → World → Prop} (h : (execOp a.eval o).run P w = .ok (.value v) w') (hK : K (a.put o.dst v) w') : Oper.wp P o a w K Q := by
  unfold Oper.wp; rw [h]; exact hK

end Go.Proofs.YtbbbaeenngjldaaGreatDoor

set_option linter.unusedVariables false
set_option linter.unusedSimpArgs false
namespace Go.Proofs.YtbbbaeenngjldaaGreatDoor
open Go.RowKit

theorem ten_enc (k : Nat) (h : k < 10) : Utf8.encode ((tenD.getD k 0).toNat : Int) = ⟨[tenD.getD k 0].toArray⟩ ∧ (tenD.getD k 0).toNat < 128 := by
  match k, h with
  | 0, _ | 1, _ | 2, _ | 3, _ | 4, _ | 5, _ | 6, _ | 7, _ | 8, _ | 9, _ => decide +kernel
theorem more_bytes (s : List UInt8) (i : Nat) (d : UInt8) : (((⟨s.toArray⟩ : ByteArray).extract 0 i) ++ (⟨[d].toArray⟩ : ByteArray)) ++ ((⟨s.toArray⟩ : ByteArray).extract i s.length) = ⟨(moreAt s i d).toArray⟩ := by
  rw [ext_take, extract_drop, cat_str, cat_str]
  unfold moreAt
  simp
theorem other_bytes (s : List UInt8) (i : Nat) (d : UInt8) : (((⟨s.toArray⟩ : ByteArray).extract 0 i) ++ (⟨[d].toArray⟩ : ByteArray)) ++ ((⟨s.toArray⟩ : ByteArray).extract (i + 1) s.length) = ⟨(otherAt s i d).toArray⟩ := by
  rw [ext_take, extract_drop, cat_str, cat_str]
  unfold otherAt
  simp
/-- append of one string to a slice of the call's own. -/
theorem app_one {o : Oper} {a : Act} {K : Act → World → Prop} {Q : Exit → Act → World → Prop} (W : World) (s x : Operand) (ho : o.op = .call { callee := .builtin .append, args := #[s, x], argTypes := #[35, 35] })
    (base : Nat) (v : Value) (n : Nat) (xs : List (List UInt8)) (z : List UInt8) (hs : a.eval s = v) (hown : W.ownsRow base 9 1 v n (xs.map encS)) (hx : a.eval x = .slice (some ⟨W.heap.size, 0, none⟩) 1 1) (hn : n ≤ 100000) (hbase : base ≤ W.heap.size)
    (h : ∀ v' w', w'.ownsRow base 9 1 v' (n + 1) ((xs ++ [z]).map encS) → (W.alloc (.cells #[.string ⟨z.toArray⟩] 9)).grownBy w' v.ownBlock → K (a.put o.dst v') w') : o.wp Tryz.prog a (W.alloc (.cells #[.string ⟨z.toArray⟩] 9)) K Q := by
  obtain ⟨i0, hi, hz0, hz1, hz2⟩ := info_parts Tryz.infoStr
  refine wp_append_own _ s x 35 ho base 9 i0 (.string ⟨#[]⟩) 1 16 Tryz.underlying35 hi hz0 hz1 hz2 rfl (by decide) v n (xs.map encS) hs (hown.alloc _) ⟨W.heap.size, 0, none⟩ 1 1 [.string ⟨z.toArray⟩] hx rfl (news_one (by simp)) (by simp [Value.oneCell']) (by simp only [maxLen]; omega) (by omega) (by simp; omega) (fun v' w' h1 h2 _ => h v' w' ?_ h2)
  rw [show (xs ++ [z]).map encS = xs.map encS ++ [.string ⟨z.toArray⟩] by simp [encS]]
  exact h1
/-- The iterator's block behind such an append. -/
theorem it_kept {w w' : World} {base e n : Nat} {o : Obj} {v : Value} {xs : List Value} {k : Nat} {s : ByteArray} {p : Nat} (h : w.ownsRow base e 1 v n xs) (hk : w.heap[k]? = some (.stringIter s p)) (hg : (w.alloc o).grownBy w' v.ownBlock) : w'.heap[k]? = some (.stringIter s p) := by
  have hlt : k < w.heap.size := (Array.getElem?_eq_some_iff.1 hk).1
  rw [hg.block k (by simp; omega) (fun e1 => ?_), Below.heap_alloc _ _ _ hlt, hk]
  rcases h.2 with ⟨rfl, _⟩ | ⟨g, cap, cur, rfl, _, hg2, _⟩
  · cases e1
  · injection e1 with e1
    subst e1
    rw [hk] at hg2
    cases hg2
theorem own_it {w : World} {base e n : Nat} {v : Value} {xs : List Value} {k : Nat} {s : ByteArray} {p : Nat} (h : w.ownsRow base e 1 v n xs) (hk : w.heap[k]? = some (.stringIter s p)) (p' : Nat) : (w.iterAt k s p').ownsRow base e 1 v n xs := by
  refine ⟨h.1, h.2.imp id ?_⟩
  rintro ⟨g, cap, cur, rfl, h1, h2, h3⟩
  refine ⟨g, cap, cur, rfl, h1, (Lib.iterAt_other w k g s p' (fun e1 => ?_)).trans h2, h3⟩
  subst e1
  rw [hk] at h2
  cases h2
def tenB : ByteArray := ⟨#[48, 49, 50, 51, 52, 53, 54, 55, 56, 57]⟩
theorem tenB_at (k : Nat) (h : k < tenB.size) : tenB[k]'h = tenD.getD k 0 := by
  have h' : k < 10 := h
  match k, h' with
  | 0, _ | 1, _ | 2, _ | 3, _ | 4, _ | 5, _ | 6, _ | 7, _ | 8, _ | 9, _ => rfl
theorem slipRow_succ (a : List UInt8) (kind i k : Nat) (hk : k < 10) : slipRow a kind i (tenD.take (k + 1)) = slipRow a kind i (tenD.take k) ++ slipStep a kind i (tenD.getD k 0) := by
  unfold slipRow
  rw [List.take_add_one, List.flatMap_append]
  congr 1
  have : k < tenD.length := hk
  simp [this]
theorem slipStep_len (a : List UInt8) (kind i : Nat) (d : UInt8) : (slipStep a kind i d).length ≤ 1 := by
  unfold slipStep
  repeat' split
  all_goals simp
theorem slipRow_len (a : List UInt8) (kind i k : Nat) : (slipRow a kind i (tenD.take k)).length ≤ 10 := by
  have h := flat_len (slipStep a kind i) 1 (slipStep_len a kind i) (tenD.take k)
  have h2 : (tenD.take k).length ≤ 10 := by rw [List.length_take]; exact Nat.min_le_right _ _
  unfold slipRow
  omega
theorem slipsTo_len (a : List UInt8) (kind k : Nat) : (slipsTo a kind k).length ≤ 10 * k := by
  have h := flat_len (fun i => slipRow a kind i tenD) 10 (fun i => slipRow_len a kind i 10) (List.range k)
  rw [List.length_range] at h
  exact h
def SlipsPost (a : List UInt8) (kind : Nat) (w : World) (e : Ending) (w' : World) : Prop :=
  ∃ v, e = .returned v ∧ w'.ownsRow w.heap.size 9 1 v (slipsL a kind).length ((slipsL a kind).map encS) ∧ Below w.heap.size w w'

set_option maxRecDepth 100000 in
set_option maxHeartbeats 4000000 in
theorem slipsOf_any (a : List UInt8) (kind : Nat) (hkd : kind = 2 ∨ kind = 3 ∨ kind = 4 ∨ kind = 5) (ha : a.length ≤ 100) (w : World) : Calls Tryz.prog 119 #[.string ⟨a.toArray⟩, .int .i64 kind] w (SlipsPost a kind w) := by
  have HP : Hid (∀ v w', w'.ownsRow w.heap.size 9 1 v (slipsL a kind).length ((slipsL a kind).map encS) → Below w.heap.size w w' → SlipsPost a kind w (.returned v) w') := fun v w' h1 h2 => ⟨v, rfl, h1, h2⟩
  have HKD := Lib.hid hkd
  have HTE : Hid (tenB = ⟨#[48, 49, 50, 51, 52, 53, 54, 55, 56, 57]⟩) := rfl
  clear hkd
  go_enter Tryz.func119, Tryz.ntmps119
  go_wp2_with fail
  go_loopw [5, 12] (fun v iv wr => ∃ (i : Nat) (ys : List (List UInt8)), i ≤ a.length + 1 ∧ iv = .int .i64 i ∧ Hid (ys = slipsTo a kind i) ∧ Hid (wr.ownsRow w.heap.size 9 1 v ys.length (ys.map encS)) ∧ Hid (Below w.heap.size w wr)) (fun _ iv _ => a.length + 1 - (intOf iv).toNat)
  case atStart => exact ⟨0, [], Nat.zero_le _, rfl, rfl, World.ownsRow_nil _ _ _ _, (by (try show Below _ _ _); repeat (with_reducible first | exact Below.refl _ _ | assumption | exact Hid.out (by assumption) | refine ext_alloc ?_ | refine ext_drewN ?_ | refine ext_drew ?_ | refine ext_setCell ?_ (Nat.le_refl _) | refine ext_setCell ?_ (Nat.le_succ _) | refine ext_trans ?_ (by assumption) | (refine ext_setCell ?_ (by simp)) | (refine ext_setCell ?_ (by simp at *; omega))))⟩
  case round =>
    obtain ⟨i, ys, hi, rfl, HY, HO, HB⟩ := hrel
    by_cases hlt : i < a.length + 1
    · obtain ⟨wo, rfl⟩ : ∃ wo : World, wo = wr := ⟨_, rfl⟩
      have hltI : (i : Int) < (a.length : Int) + 1 := by omega
      have HIL := Lib.hid hlt
      have hyl : ys.length ≤ 1010 := by have := slipsTo_len a kind i; rw [← HY.out] at this; omega
      clear hlt
      go_wp2_with fail
      have HIT : Hid ((wo.iter tenB 0).heap[wo.heap.size]? = some (.stringIter tenB 0)) := World.iter_heap _ _ _
      have HO0 := Lib.hid (HO.out.alloc (.stringIter tenB 0))
      have HB0 : Hid (Below w.heap.size w (wo.iter tenB 0)) := HB.out.alloc HB.out.size _
      have HZO := Lib.hid HB.out.size
      go_loopw [5] (fun v wr => ∃ (pos : Nat) (zs : List (List UInt8)), pos ≤ 10 ∧ Hid (wr.heap[wo.heap.size]? = some (.stringIter tenB pos)) ∧ Hid (zs = slipsTo a kind i ++ slipRow a kind i (tenD.take pos)) ∧ Hid (wr.ownsRow w.heap.size 9 1 v zs.length (zs.map encS)) ∧ Hid (Below w.heap.size w wr)) (fun _ wr => 10 - wr.iterPos wo.heap.size)
      case atStart => exact ⟨0, ys, by omega, HIT.out, by show _ = _; rw [HY.out]; simp [slipRow], HO0.out, HB0.out⟩
      case round =>
        obtain ⟨pos, zs, hpos, HI, HZ, HOZ, HBW⟩ := hrel
        have hzl : zs.length ≤ 1020 := by
          have h1 := slipsTo_len a kind i
          have h2 := slipRow_len a kind i pos
          have h3 := HIL.out
          rw [HZ.out, List.length_append]
          omega
        by_cases hp : pos < 10
        · have hsz : pos < tenB.size := hp
          obtain ⟨henc, has⟩ := ten_enc pos hp
          have hnx : ∀ ty, (Instr.next (.pointer (some ⟨wo.heap.size, 0, none⟩)) true ty).run Tryz.prog wr = .ok (.tuple #[.bool true, .int .i64 pos, .int .i32 (tenD.getD pos 0).toNat]) (wr.iterAt wo.heap.size tenB (pos + 1)) := fun ty => by
            have h := Lib.run_next_ascii_at (P := Tryz.prog) wr wo.heap.size tenB pos ty HI.out hsz (by rw [tenB_at pos hsz]; exact has)
            rw [tenB_at pos hsz] at h
            exact h
          have HI1 := Lib.hid (Lib.iterAt_heap wr wo.heap.size tenB pos (pos + 1) HI.out)
          have HO1 := Lib.hid (own_it HOZ.out HI.out (pos + 1))
          have HB1 := Lib.hid (Lib.below_iterAt HBW.out (k := wo.heap.size) HZO.out tenB (pos + 1))
          have HST : Hid (slipsTo a kind i ++ slipRow a kind i (tenD.take (pos + 1)) = zs ++ slipStep a kind i (tenD.getD pos 0)) := by
            show _ = _
            rw [slipRow_succ a kind i pos hp, ← List.append_assoc, ← HZ.out]
          have HENC := Lib.hid henc
          obtain ⟨W1, hW1⟩ : ∃ W1, W1 = wr.iterAt wo.heap.size tenB (pos + 1) := ⟨_, rfl⟩
          rw [← hW1] at hnx HI1 HO1 HB1
          have HOD : Hid (W1.drew.ownsRow w.heap.size 9 1 _ zs.length (zs.map encS)) := HO1.out
          have HBZ := Lib.hid HB1.out.size
          clear hW1 henc hsz
          generalize hc : tenD.getD pos 0 = c at hnx HST HENC has
          clear hc
          have hq : c.toNat < 128 := has
          generalize c.toNat = q at hnx HENC hq
          clear has
          have hi1 : IntKind.i64.wrap ((i : Int) + 1) = (i : Int) + 1 := IntWalk.i64_in _ (by omega)
          have hi2 : ((i : Int) + 1).toNat = i + 1 := by omega
          have hi3 : (i : Int) ≤ a.length := by have := HIL.out; omega
          have hi4 : (0 : Int) ≤ (i : Int) + 1 := by omega
          rcases HKD.out with rfl | rfl | rfl | rfl
          · skip
            by_cases hil : i = a.length
            · subst hil
              have HNX : Hid (zs = slipsTo a 2 a.length ++ slipRow a 2 a.length (tenD.take (pos + 1))) := by show _ = _; rw [HST.out]; simp [slipStep]
              clear HST HZ
              as_aux_lemma =>
                go_wp2_with fail
                go_roundw
                case rel => exact ⟨pos + 1, zs, by omega, HI1.out, HNX.out, HO1.out, HB1.out⟩
                case measure => rw [iterPos_of HI1.out, iterPos_of HI.out]; omega
            · have hilN : ((i : Int) == (a.length : Int)) = false := beq_eq_false_iff_ne.2 (by omega)
              have hi5 : (i : Int) + 1 ≤ a.length := by have := HIL.out; omega
              have HNX : Hid (zs ++ [otherAt a i c] = slipsTo a 2 i ++ slipRow a 2 i (tenD.take (pos + 1))) := by show _ = _; rw [HST.out]; simp [slipStep, hil]
              clear HST HZ
              as_aux_lemma =>
                go_upto_region 12 with (fail)
                refine region_seqI (S := fun _ => True) [(true, 0), (true, 1), (true, 2), (true, 3), (true, 4), (true, 5), (true, 6), (true, 7), (true, 8), (true, 9), (true, 10), (true, 11), (false, 12), (false, 13), (true, 14)] (by kernel_rfl) (by kernel_rfl) rfl (by kernel_rfl) trivial ?_
                simp only [seqOps, List.getD_cons_zero, List.getD_cons_succ]
                refine seqI_take (v := u5) rfl (fun W _ => by go_simp) (fun _ _ _ h => h) ?_
                simp only [Act.put, List.setIfInBounds_toArray, List.set_cons_zero, List.set_cons_succ]
                refine seqI_take (v := .string ⟨a.toArray⟩) rfl (fun W _ => by go_simp) (fun _ _ _ h => h) ?_
                simp only [Act.put, List.setIfInBounds_toArray, List.set_cons_zero, List.set_cons_succ]
                refine seqI_take (v := .int .i64 i) rfl (fun W _ => by go_simp) (fun _ _ _ h => h) ?_
                simp only [Act.put, List.setIfInBounds_toArray, List.set_cons_zero, List.set_cons_succ]
                refine seqI_take (v := .string ⟨(a.take i).toArray⟩) rfl (fun W _ => by rw [← ext_take a i]; go_simp) (fun _ _ _ h => h) ?_
                simp only [Act.put, List.setIfInBounds_toArray, List.set_cons_zero, List.set_cons_succ]
                refine seqI_take (v := .int .i32 q) rfl (fun W _ => by go_simp) (fun _ _ _ h => h) ?_
                simp only [Act.put, List.setIfInBounds_toArray, List.set_cons_zero, List.set_cons_succ]
                refine seqI_take (v := .string ⟨[c].toArray⟩) rfl (fun W _ => by rw [← HENC.out]; go_simp) (fun _ _ _ h => h) ?_
                simp only [Act.put, List.setIfInBounds_toArray, List.set_cons_zero, List.set_cons_succ]
                refine seqI_take (v := .string ⟨((a.take i) ++ ([c])).toArray⟩) rfl (fun W _ => by rw [← cat_str (a.take i) ([c])]; go_simp <;> first | omega | rw [if_neg (by omega)]) (fun _ _ _ h => h) ?_
                simp only [Act.put, List.setIfInBounds_toArray, List.set_cons_zero, List.set_cons_succ]
                refine seqI_take (v := .string ⟨a.toArray⟩) rfl (fun W _ => by go_simp) (fun _ _ _ h => h) ?_
                simp only [Act.put, List.setIfInBounds_toArray, List.set_cons_zero, List.set_cons_succ]
                refine seqI_take (v := .int .i64 i) rfl (fun W _ => by go_simp) (fun _ _ _ h => h) ?_
                simp only [Act.put, List.setIfInBounds_toArray, List.set_cons_zero, List.set_cons_succ]
                refine seqI_take (v := .int .i64 ((i : Int) + 1)) rfl (fun W _ => by go_simp) (fun _ _ _ h => h) ?_
                simp only [Act.put, List.setIfInBounds_toArray, List.set_cons_zero, List.set_cons_succ]
                refine seqI_take (v := .string ⟨(a.drop (i + 1)).toArray⟩) rfl (fun W _ => by rw [← extract_drop a (i + 1)]; go_simp) (fun _ _ _ h => h) ?_
                simp only [Act.put, List.setIfInBounds_toArray, List.set_cons_zero, List.set_cons_succ]
                refine seqI_take (v := .string ⟨(otherAt a i c).toArray⟩) rfl (fun W _ => by rw [show otherAt a i c = (a.take i ++ [c]) ++ (a.drop (i + 1)) from by simp [otherAt], ← cat_str (a.take i ++ [c]) (a.drop (i + 1))]; go_simp <;> first | omega | rw [if_neg (by omega)]) (fun _ _ _ h => h) ?_
                simp only [Act.put, List.setIfInBounds_toArray, List.set_cons_zero, List.set_cons_succ]
                refine seqI_do rfl (wp_made (v := .slice (some ⟨W1.heap.size, 0, none⟩) 1 1) (w' := W1.drew.alloc (.cells #[.string ⟨(otherAt a i c).toArray⟩] 9)) (by go_simp) ⟨trivial, ?_⟩)
                simp only [Act.put, List.setIfInBounds_toArray, List.set_cons_zero, List.set_cons_succ]
                refine seqI_do rfl (app_one W1.drew (.tmp 43) (.tmp 55) rfl w.heap.size _ zs.length zs (otherAt a i c) rfl HOD.out rfl (by omega) (by show w.heap.size ≤ W1.heap.size; exact HBZ.out) ?_)
                intro v6 w6 hown6 hgr6
                refine ⟨trivial, ?_⟩
                simp only [Act.put, List.setIfInBounds_toArray, List.set_cons_zero, List.set_cons_succ]
                refine seqI_take (v := v6) rfl (fun W _ => by go_simp) (fun _ _ _ h => h) ?_
                simp only [Act.put, List.setIfInBounds_toArray, List.set_cons_zero, List.set_cons_succ]
                refine seqI_nil ?_
                have HI6 := Lib.hid (it_kept HOD.out HI1.out hgr6)
                have HO6 : Hid (w6.ownsRow w.heap.size 9 1 v6 (zs ++ [otherAt a i c]).length ((zs ++ [otherAt a i c]).map encS)) := by
                  rw [List.length_append, List.length_singleton]
                  exact hown6
                have HB6 : Hid (Below w.heap.size w w6) := (ext_drew HB1.out).trans (upto_grown (w := W1.drew) hgr6 HBZ.out (fun b e => (HOD.out.lt b e).1))
                go_wp2_with fail
                go_roundw
                case rel => exact ⟨pos + 1, zs ++ [otherAt a i c], by omega, HI6.out, HNX.out, HO6.out, HB6.out⟩
                case measure => rw [iterPos_of HI6.out, iterPos_of HI.out]; omega
          · skip
            by_cases hil : i = a.length
            · subst hil
              have HNX : Hid (zs = slipsTo a 3 a.length ++ slipRow a 3 a.length (tenD.take (pos + 1))) := by show _ = _; rw [HST.out]; simp [slipStep]
              clear HST HZ
              as_aux_lemma =>
                go_wp2_with fail
                go_roundw
                case rel => exact ⟨pos + 1, zs, by omega, HI1.out, HNX.out, HO1.out, HB1.out⟩
                case measure => rw [iterPos_of HI1.out, iterPos_of HI.out]; omega
            · have hilN : ((i : Int) == (a.length : Int)) = false := beq_eq_false_iff_ne.2 (by omega)
              have hi5 : (i : Int) + 1 ≤ a.length := by have := HIL.out; omega
              by_cases hT : i + 1 < a.length
              · have hT2 : (i : Int) + 1 < a.length := by omega
                have hi6 : IntKind.i64.wrap ((i : Int) + 2) = (i : Int) + 2 := IntWalk.i64_in _ (by omega)
                have hi7 : ((i : Int) + 2).toNat = i + 2 := by omega
                have hi8 : (i : Int) + 2 ≤ a.length := by omega
                have hi9 : (0 : Int) ≤ (i : Int) + 2 := by omega
                have hi10 : (i : Int) ≤ (i : Int) + 1 := by omega
                have hi11 : (i : Int) + 1 ≤ (i : Int) + 2 := by omega
                have HTN : Hid (turnAt a i = ((a.take i ++ (a.take (i + 2)).drop (i + 1)) ++ (a.take (i + 1)).drop i) ++ a.drop (i + 2)) := turn_lists a i hT
                have HNX : Hid (zs ++ [turnAt a i] = slipsTo a 3 i ++ slipRow a 3 i (tenD.take (pos + 1))) := by show _ = _; rw [HST.out]; simp [slipStep, hil, hT]
                clear HST HZ
                as_aux_lemma =>
                  go_upto_region 16 with (fail)
                  refine region_seqI (S := fun _ => True) [(true, 0), (true, 1), (true, 2), (true, 3), (true, 4), (true, 5), (true, 6), (true, 7), (true, 8), (true, 9), (true, 10), (true, 11), (true, 12), (true, 13), (true, 14), (true, 15), (true, 16), (true, 17), (true, 18), (true, 19), (true, 20), (true, 21), (false, 22), (false, 23), (true, 24)] (by kernel_rfl) (by kernel_rfl) rfl (by kernel_rfl) trivial ?_
                  simp only [seqOps, List.getD_cons_zero, List.getD_cons_succ]
                  refine seqI_take (v := u5) rfl (fun W _ => by go_simp) (fun _ _ _ h => h) ?_
                  simp only [Act.put, List.setIfInBounds_toArray, List.set_cons_zero, List.set_cons_succ]
                  refine seqI_take (v := .string ⟨a.toArray⟩) rfl (fun W _ => by go_simp) (fun _ _ _ h => h) ?_
                  simp only [Act.put, List.setIfInBounds_toArray, List.set_cons_zero, List.set_cons_succ]
                  refine seqI_take (v := .int .i64 i) rfl (fun W _ => by go_simp) (fun _ _ _ h => h) ?_
                  simp only [Act.put, List.setIfInBounds_toArray, List.set_cons_zero, List.set_cons_succ]
                  refine seqI_take (v := .string ⟨(a.take i).toArray⟩) rfl (fun W _ => by rw [← ext_take a i]; go_simp) (fun _ _ _ h => h) ?_
                  simp only [Act.put, List.setIfInBounds_toArray, List.set_cons_zero, List.set_cons_succ]
                  refine seqI_take (v := .string ⟨a.toArray⟩) rfl (fun W _ => by go_simp) (fun _ _ _ h => h) ?_
                  simp only [Act.put, List.setIfInBounds_toArray, List.set_cons_zero, List.set_cons_succ]
                  refine seqI_take (v := .int .i64 i) rfl (fun W _ => by go_simp) (fun _ _ _ h => h) ?_
                  simp only [Act.put, List.setIfInBounds_toArray, List.set_cons_zero, List.set_cons_succ]
                  refine seqI_take (v := .int .i64 ((i : Int) + 1)) rfl (fun W _ => by go_simp) (fun _ _ _ h => h) ?_
                  simp only [Act.put, List.setIfInBounds_toArray, List.set_cons_zero, List.set_cons_succ]
                  refine seqI_take (v := .int .i64 i) rfl (fun W _ => by go_simp) (fun _ _ _ h => h) ?_
                  simp only [Act.put, List.setIfInBounds_toArray, List.set_cons_zero, List.set_cons_succ]
                  refine seqI_take (v := .int .i64 ((i : Int) + 2)) rfl (fun W _ => by go_simp) (fun _ _ _ h => h) ?_
                  simp only [Act.put, List.setIfInBounds_toArray, List.set_cons_zero, List.set_cons_succ]
                  refine seqI_take (v := .string ⟨((a.take (i + 2)).drop (i + 1)).toArray⟩) rfl (fun W _ => by rw [← ext_mid a (i + 1) (i + 2)]; go_simp) (fun _ _ _ h => h) ?_
                  simp only [Act.put, List.setIfInBounds_toArray, List.set_cons_zero, List.set_cons_succ]
                  refine seqI_take (v := .string ⟨((a.take i) ++ ((a.take (i + 2)).drop (i + 1))).toArray⟩) rfl (fun W _ => by rw [← cat_str (a.take i) ((a.take (i + 2)).drop (i + 1))]; go_simp <;> first | omega | rw [if_neg (by omega)]) (fun _ _ _ h => h) ?_
                  simp only [Act.put, List.setIfInBounds_toArray, List.set_cons_zero, List.set_cons_succ]
                  refine seqI_take (v := .string ⟨a.toArray⟩) rfl (fun W _ => by go_simp) (fun _ _ _ h => h) ?_
                  simp only [Act.put, List.setIfInBounds_toArray, List.set_cons_zero, List.set_cons_succ]
                  refine seqI_take (v := .int .i64 i) rfl (fun W _ => by go_simp) (fun _ _ _ h => h) ?_
                  simp only [Act.put, List.setIfInBounds_toArray, List.set_cons_zero, List.set_cons_succ]
                  refine seqI_take (v := .int .i64 i) rfl (fun W _ => by go_simp) (fun _ _ _ h => h) ?_
                  simp only [Act.put, List.setIfInBounds_toArray, List.set_cons_zero, List.set_cons_succ]
                  refine seqI_take (v := .int .i64 ((i : Int) + 1)) rfl (fun W _ => by go_simp) (fun _ _ _ h => h) ?_
                  simp only [Act.put, List.setIfInBounds_toArray, List.set_cons_zero, List.set_cons_succ]
                  refine seqI_take (v := .string ⟨((a.take (i + 1)).drop (i)).toArray⟩) rfl (fun W _ => by rw [← ext_mid a (i) (i + 1)]; go_simp) (fun _ _ _ h => h) ?_
                  simp only [Act.put, List.setIfInBounds_toArray, List.set_cons_zero, List.set_cons_succ]
                  refine seqI_take (v := .string ⟨((a.take i ++ (a.take (i + 2)).drop (i + 1)) ++ ((a.take (i + 1)).drop i)).toArray⟩) rfl (fun W _ => by rw [← cat_str (a.take i ++ (a.take (i + 2)).drop (i + 1)) ((a.take (i + 1)).drop i)]; go_simp <;> first | omega | rw [if_neg (by omega)]) (fun _ _ _ h => h) ?_
                  simp only [Act.put, List.setIfInBounds_toArray, List.set_cons_zero, List.set_cons_succ]
                  refine seqI_take (v := .string ⟨a.toArray⟩) rfl (fun W _ => by go_simp) (fun _ _ _ h => h) ?_
                  simp only [Act.put, List.setIfInBounds_toArray, List.set_cons_zero, List.set_cons_succ]
                  refine seqI_take (v := .int .i64 i) rfl (fun W _ => by go_simp) (fun _ _ _ h => h) ?_
                  simp only [Act.put, List.setIfInBounds_toArray, List.set_cons_zero, List.set_cons_succ]
                  refine seqI_take (v := .int .i64 ((i : Int) + 2)) rfl (fun W _ => by go_simp) (fun _ _ _ h => h) ?_
                  simp only [Act.put, List.setIfInBounds_toArray, List.set_cons_zero, List.set_cons_succ]
                  refine seqI_take (v := .string ⟨(a.drop (i + 2)).toArray⟩) rfl (fun W _ => by rw [← extract_drop a (i + 2)]; go_simp) (fun _ _ _ h => h) ?_
                  simp only [Act.put, List.setIfInBounds_toArray, List.set_cons_zero, List.set_cons_succ]
                  refine seqI_take (v := .string ⟨(turnAt a i).toArray⟩) rfl (fun W _ => by rw [show turnAt a i = ((a.take i ++ (a.take (i + 2)).drop (i + 1)) ++ (a.take (i + 1)).drop i) ++ (a.drop (i + 2)) from HTN.out, ← cat_str ((a.take i ++ (a.take (i + 2)).drop (i + 1)) ++ (a.take (i + 1)).drop i) (a.drop (i + 2))]; go_simp <;> first | omega | rw [if_neg (by omega)]) (fun _ _ _ h => h) ?_
                  simp only [Act.put, List.setIfInBounds_toArray, List.set_cons_zero, List.set_cons_succ]
                  refine seqI_do rfl (wp_made (v := .slice (some ⟨W1.heap.size, 0, none⟩) 1 1) (w' := W1.drew.alloc (.cells #[.string ⟨(turnAt a i).toArray⟩] 9)) (by go_simp) ⟨trivial, ?_⟩)
                  simp only [Act.put, List.setIfInBounds_toArray, List.set_cons_zero, List.set_cons_succ]
                  refine seqI_do rfl (app_one W1.drew (.tmp 81) (.tmp 103) rfl w.heap.size _ zs.length zs (turnAt a i) rfl HOD.out rfl (by omega) (by show w.heap.size ≤ W1.heap.size; exact HBZ.out) ?_)
                  intro v6 w6 hown6 hgr6
                  refine ⟨trivial, ?_⟩
                  simp only [Act.put, List.setIfInBounds_toArray, List.set_cons_zero, List.set_cons_succ]
                  refine seqI_take (v := v6) rfl (fun W _ => by go_simp) (fun _ _ _ h => h) ?_
                  simp only [Act.put, List.setIfInBounds_toArray, List.set_cons_zero, List.set_cons_succ]
                  refine seqI_nil ?_
                  have HI6 := Lib.hid (it_kept HOD.out HI1.out hgr6)
                  have HO6 : Hid (w6.ownsRow w.heap.size 9 1 v6 (zs ++ [turnAt a i]).length ((zs ++ [turnAt a i]).map encS)) := by
                    rw [List.length_append, List.length_singleton]
                    exact hown6
                  have HB6 : Hid (Below w.heap.size w w6) := (ext_drew HB1.out).trans (upto_grown (w := W1.drew) hgr6 HBZ.out (fun b e => (HOD.out.lt b e).1))
                  go_wp2_with fail
                  go_roundw
                  case rel => exact ⟨pos + 1, zs ++ [turnAt a i], by omega, HI6.out, HNX.out, HO6.out, HB6.out⟩
                  case measure => rw [iterPos_of HI6.out, iterPos_of HI.out]; omega
              · have hT2 : ¬ (i : Int) + 1 < a.length := by omega
                have HNX : Hid (zs = slipsTo a 3 i ++ slipRow a 3 i (tenD.take (pos + 1))) := by show _ = _; rw [HST.out]; simp [slipStep, hil, hT]
                clear HST HZ
                as_aux_lemma =>
                  go_wp2_with fail
                  go_roundw
                  case rel => exact ⟨pos + 1, zs, by omega, HI1.out, HNX.out, HO1.out, HB1.out⟩
                  case measure => rw [iterPos_of HI1.out, iterPos_of HI.out]; omega
          · skip
            by_cases hil : i = a.length
            · subst hil
              have HNX : Hid (zs = slipsTo a 4 a.length ++ slipRow a 4 a.length (tenD.take (pos + 1))) := by show _ = _; rw [HST.out]; simp [slipStep]
              clear HST HZ
              as_aux_lemma =>
                go_wp2_with fail
                go_roundw
                case rel => exact ⟨pos + 1, zs, by omega, HI1.out, HNX.out, HO1.out, HB1.out⟩
                case measure => rw [iterPos_of HI1.out, iterPos_of HI.out]; omega
            · have hilN : ((i : Int) == (a.length : Int)) = false := beq_eq_false_iff_ne.2 (by omega)
              have hi5 : (i : Int) + 1 ≤ a.length := by have := HIL.out; omega
              have HNX : Hid (zs ++ [lostAt a i] = slipsTo a 4 i ++ slipRow a 4 i (tenD.take (pos + 1))) := by show _ = _; rw [HST.out]; simp [slipStep, hil]
              clear HST HZ
              as_aux_lemma =>
                go_upto_region 14 with (fail)
                refine region_seqI (S := fun _ => True) [(true, 0), (true, 1), (true, 2), (true, 3), (true, 4), (true, 5), (true, 6), (true, 7), (true, 8), (false, 9), (false, 10), (true, 11)] (by kernel_rfl) (by kernel_rfl) rfl (by kernel_rfl) trivial ?_
                simp only [seqOps, List.getD_cons_zero, List.getD_cons_succ]
                refine seqI_take (v := u5) rfl (fun W _ => by go_simp) (fun _ _ _ h => h) ?_
                simp only [Act.put, List.setIfInBounds_toArray, List.set_cons_zero, List.set_cons_succ]
                refine seqI_take (v := .string ⟨a.toArray⟩) rfl (fun W _ => by go_simp) (fun _ _ _ h => h) ?_
                simp only [Act.put, List.setIfInBounds_toArray, List.set_cons_zero, List.set_cons_succ]
                refine seqI_take (v := .int .i64 i) rfl (fun W _ => by go_simp) (fun _ _ _ h => h) ?_
                simp only [Act.put, List.setIfInBounds_toArray, List.set_cons_zero, List.set_cons_succ]
                refine seqI_take (v := .string ⟨(a.take i).toArray⟩) rfl (fun W _ => by rw [← ext_take a i]; go_simp) (fun _ _ _ h => h) ?_
                simp only [Act.put, List.setIfInBounds_toArray, List.set_cons_zero, List.set_cons_succ]
                refine seqI_take (v := .string ⟨a.toArray⟩) rfl (fun W _ => by go_simp) (fun _ _ _ h => h) ?_
                simp only [Act.put, List.setIfInBounds_toArray, List.set_cons_zero, List.set_cons_succ]
                refine seqI_take (v := .int .i64 i) rfl (fun W _ => by go_simp) (fun _ _ _ h => h) ?_
                simp only [Act.put, List.setIfInBounds_toArray, List.set_cons_zero, List.set_cons_succ]
                refine seqI_take (v := .int .i64 ((i : Int) + 1)) rfl (fun W _ => by go_simp) (fun _ _ _ h => h) ?_
                simp only [Act.put, List.setIfInBounds_toArray, List.set_cons_zero, List.set_cons_succ]
                refine seqI_take (v := .string ⟨(a.drop (i + 1)).toArray⟩) rfl (fun W _ => by rw [← extract_drop a (i + 1)]; go_simp) (fun _ _ _ h => h) ?_
                simp only [Act.put, List.setIfInBounds_toArray, List.set_cons_zero, List.set_cons_succ]
                refine seqI_take (v := .string ⟨(lostAt a i).toArray⟩) rfl (fun W _ => by rw [show lostAt a i = (a.take i) ++ (a.drop (i + 1)) from rfl, ← cat_str (a.take i) (a.drop (i + 1))]; go_simp <;> first | omega | rw [if_neg (by omega)]) (fun _ _ _ h => h) ?_
                simp only [Act.put, List.setIfInBounds_toArray, List.set_cons_zero, List.set_cons_succ]
                refine seqI_do rfl (wp_made (v := .slice (some ⟨W1.heap.size, 0, none⟩) 1 1) (w' := W1.drew.alloc (.cells #[.string ⟨(lostAt a i).toArray⟩] 9)) (by go_simp) ⟨trivial, ?_⟩)
                simp only [Act.put, List.setIfInBounds_toArray, List.set_cons_zero, List.set_cons_succ]
                refine seqI_do rfl (app_one W1.drew (.tmp 60) (.tmp 69) rfl w.heap.size _ zs.length zs (lostAt a i) rfl HOD.out rfl (by omega) (by show w.heap.size ≤ W1.heap.size; exact HBZ.out) ?_)
                intro v6 w6 hown6 hgr6
                refine ⟨trivial, ?_⟩
                simp only [Act.put, List.setIfInBounds_toArray, List.set_cons_zero, List.set_cons_succ]
                refine seqI_take (v := v6) rfl (fun W _ => by go_simp) (fun _ _ _ h => h) ?_
                simp only [Act.put, List.setIfInBounds_toArray, List.set_cons_zero, List.set_cons_succ]
                refine seqI_nil ?_
                have HI6 := Lib.hid (it_kept HOD.out HI1.out hgr6)
                have HO6 : Hid (w6.ownsRow w.heap.size 9 1 v6 (zs ++ [lostAt a i]).length ((zs ++ [lostAt a i]).map encS)) := by
                  rw [List.length_append, List.length_singleton]
                  exact hown6
                have HB6 : Hid (Below w.heap.size w w6) := (ext_drew HB1.out).trans (upto_grown (w := W1.drew) hgr6 HBZ.out (fun b e => (HOD.out.lt b e).1))
                go_wp2_with fail
                go_roundw
                case rel => exact ⟨pos + 1, zs ++ [lostAt a i], by omega, HI6.out, HNX.out, HO6.out, HB6.out⟩
                case measure => rw [iterPos_of HI6.out, iterPos_of HI.out]; omega
          · skip
            have HNX : Hid (zs ++ [moreAt a i c] = slipsTo a 5 i ++ slipRow a 5 i (tenD.take (pos + 1))) := by show _ = _; rw [HST.out]; simp [slipStep]
            clear HST HZ
            as_aux_lemma =>
              go_upto_region 9 with (fail)
              refine region_seqI (S := fun _ => True) [(true, 0), (true, 1), (true, 2), (true, 3), (true, 4), (true, 5), (true, 6), (true, 7), (true, 8), (true, 9), (true, 10), (false, 11), (false, 12), (true, 13)] (by kernel_rfl) (by kernel_rfl) rfl (by kernel_rfl) trivial ?_
              simp only [seqOps, List.getD_cons_zero, List.getD_cons_succ]
              refine seqI_take (v := u5) rfl (fun W _ => by go_simp) (fun _ _ _ h => h) ?_
              simp only [Act.put, List.setIfInBounds_toArray, List.set_cons_zero, List.set_cons_succ]
              refine seqI_take (v := .string ⟨a.toArray⟩) rfl (fun W _ => by go_simp) (fun _ _ _ h => h) ?_
              simp only [Act.put, List.setIfInBounds_toArray, List.set_cons_zero, List.set_cons_succ]
              refine seqI_take (v := .int .i64 i) rfl (fun W _ => by go_simp) (fun _ _ _ h => h) ?_
              simp only [Act.put, List.setIfInBounds_toArray, List.set_cons_zero, List.set_cons_succ]
              refine seqI_take (v := .string ⟨(a.take i).toArray⟩) rfl (fun W _ => by rw [← ext_take a i]; go_simp) (fun _ _ _ h => h) ?_
              simp only [Act.put, List.setIfInBounds_toArray, List.set_cons_zero, List.set_cons_succ]
              refine seqI_take (v := .int .i32 q) rfl (fun W _ => by go_simp) (fun _ _ _ h => h) ?_
              simp only [Act.put, List.setIfInBounds_toArray, List.set_cons_zero, List.set_cons_succ]
              refine seqI_take (v := .string ⟨[c].toArray⟩) rfl (fun W _ => by rw [← HENC.out]; go_simp) (fun _ _ _ h => h) ?_
              simp only [Act.put, List.setIfInBounds_toArray, List.set_cons_zero, List.set_cons_succ]
              refine seqI_take (v := .string ⟨((a.take i) ++ ([c])).toArray⟩) rfl (fun W _ => by rw [← cat_str (a.take i) ([c])]; go_simp <;> first | omega | rw [if_neg (by omega)]) (fun _ _ _ h => h) ?_
              simp only [Act.put, List.setIfInBounds_toArray, List.set_cons_zero, List.set_cons_succ]
              refine seqI_take (v := .string ⟨a.toArray⟩) rfl (fun W _ => by go_simp) (fun _ _ _ h => h) ?_
              simp only [Act.put, List.setIfInBounds_toArray, List.set_cons_zero, List.set_cons_succ]
              refine seqI_take (v := .int .i64 i) rfl (fun W _ => by go_simp) (fun _ _ _ h => h) ?_
              simp only [Act.put, List.setIfInBounds_toArray, List.set_cons_zero, List.set_cons_succ]
              refine seqI_take (v := .string ⟨(a.drop (i)).toArray⟩) rfl (fun W _ => by rw [← extract_drop a (i)]; go_simp) (fun _ _ _ h => h) ?_
              simp only [Act.put, List.setIfInBounds_toArray, List.set_cons_zero, List.set_cons_succ]
              refine seqI_take (v := .string ⟨(moreAt a i c).toArray⟩) rfl (fun W _ => by rw [show moreAt a i c = (a.take i ++ [c]) ++ (a.drop i) from by simp [moreAt], ← cat_str (a.take i ++ [c]) (a.drop i)]; go_simp <;> first | omega | rw [if_neg (by omega)]) (fun _ _ _ h => h) ?_
              simp only [Act.put, List.setIfInBounds_toArray, List.set_cons_zero, List.set_cons_succ]
              refine seqI_do rfl (wp_made (v := .slice (some ⟨W1.heap.size, 0, none⟩) 1 1) (w' := W1.drew.alloc (.cells #[.string ⟨(moreAt a i c).toArray⟩] 9)) (by go_simp) ⟨trivial, ?_⟩)
              simp only [Act.put, List.setIfInBounds_toArray, List.set_cons_zero, List.set_cons_succ]
              refine seqI_do rfl (app_one W1.drew (.tmp 22) (.tmp 33) rfl w.heap.size _ zs.length zs (moreAt a i c) rfl HOD.out rfl (by omega) (by show w.heap.size ≤ W1.heap.size; exact HBZ.out) ?_)
              intro v6 w6 hown6 hgr6
              refine ⟨trivial, ?_⟩
              simp only [Act.put, List.setIfInBounds_toArray, List.set_cons_zero, List.set_cons_succ]
              refine seqI_take (v := v6) rfl (fun W _ => by go_simp) (fun _ _ _ h => h) ?_
              simp only [Act.put, List.setIfInBounds_toArray, List.set_cons_zero, List.set_cons_succ]
              refine seqI_nil ?_
              have HI6 := Lib.hid (it_kept HOD.out HI1.out hgr6)
              have HO6 : Hid (w6.ownsRow w.heap.size 9 1 v6 (zs ++ [moreAt a i c]).length ((zs ++ [moreAt a i c]).map encS)) := by
                rw [List.length_append, List.length_singleton]
                exact hown6
              have HB6 : Hid (Below w.heap.size w w6) := (ext_drew HB1.out).trans (upto_grown (w := W1.drew) hgr6 HBZ.out (fun b e => (HOD.out.lt b e).1))
              go_wp2_with fail
              go_roundw
              case rel => exact ⟨pos + 1, zs ++ [moreAt a i c], by omega, HI6.out, HNX.out, HO6.out, HB6.out⟩
              case measure => rw [iterPos_of HI6.out, iterPos_of HI.out]; omega
        · obtain rfl : pos = 10 := by omega
          have hsz : ¬ 10 < tenB.size := by decide
          have hnx : ∀ ty, (Instr.next (.pointer (some ⟨wo.heap.size, 0, none⟩)) true ty).run Tryz.prog wr = .ok (.tuple #[.bool false]) wr := fun ty => Lib.run_next_end_at (P := Tryz.prog) wr wo.heap.size tenB 10 ty HI.out hsz
          have HN : Hid (zs = slipsTo a kind (i + 1)) := by
            show _ = _
            rw [HZ.out, slipsTo_succ]
            rfl
          have hi1 : IntKind.i64.wrap ((i : Int) + 1) = (i : Int) + 1 := IntWalk.i64_in _ (by omega)
          have hi3 := HIL.out
          clear HZ
          as_aux_lemma =>
            go_wp2_with fail
            go_roundw
            case rel => exact ⟨i + 1, zs, by omega, by go_num, HN.out, HOZ.out, HBW.out⟩
            case measure => first | (simp [intOf]; done) | (simp [intOf]; omega)
    · obtain rfl : i = a.length + 1 := by omega
      have ho9 := HO.out
      rw [HY.out] at ho9
      have HO9 := Lib.hid ho9
      clear ho9
      have hz : ¬ (((a.length + 1 : Nat) : Int) < (a.length : Int) + 1) := by omega
      have hz2 : ¬ ((a.length : Int) + 1 < (a.length : Int) + 1) := by omega
      clear HY HO
      as_aux_lemma =>
        go_wp2_with fail
        go_ret
        exact HP.out _ _ HO9.out HB.out
end Go.Proofs.YtbbbaeenngjldaaGreatDoor

set_option linter.unusedVariables false
set_option linter.unusedSimpArgs false
namespace Go.Proofs.YtbbbaeenngjldaaGreatDoor
open Go.RowKit

theorem slipsL_len (a : List UInt8) (kind : Nat) : (slipsL a kind).length ≤ 10 * (a.length + 1) := slipsTo_len a kind _
theorem slipR_found {a b : List UInt8} (hab : a ≠ b) {j : Nat} (hj : j < 4) (hn : ∀ k, k < j → b ∉ slipsL a (k + 2)) (h : b ∈ slipsL a (j + 2)) : slipR a b = j + 2 := by
  unfold slipR
  rw [if_neg hab]
  match j, hj with
  | 0, _ => rw [if_pos h]
  | 1, _ => rw [if_neg (hn 0 (by omega)), if_pos h]
  | 2, _ => rw [if_neg (hn 0 (by omega)), if_neg (hn 1 (by omega)), if_pos h]
  | 3, _ => rw [if_neg (hn 0 (by omega)), if_neg (hn 1 (by omega)), if_neg (hn 2 (by omega)), if_pos h]
theorem slipR_none {a b : List UInt8} (hab : a ≠ b) (hn : ∀ k, k < 4 → b ∉ slipsL a (k + 2)) : slipR a b = 0 := by
  unfold slipR
  rw [if_neg hab, if_neg (hn 0 (by omega)), if_neg (hn 1 (by omega)), if_neg (hn 2 (by omega)), if_neg (hn 3 (by omega))]
theorem cells_kinds {w w9 : World} (h9 : Below (w.heap.size + 1) (w.alloc (.cells #[.int .i64 2, .int .i64 3, .int .i64 4, .int .i64 5] 3)) w9) (j : Nat) (hj : j < 4) : w9.cell? ⟨w.heap.size, j, none⟩ = some (.int .i64 ((j : Nat) + 2 : Int)) := by
  refine (h9.cell (p := ⟨w.heap.size, j, none⟩) (Nat.lt_succ_self _)).trans ?_
  match j, hj with
  | 0, _ => simp
  | 1, _ => simp
  | 2, _ => simp
  | 3, _ => simp

set_option maxRecDepth 100000 in
set_option maxHeartbeats 4000000 in
theorem slipOf_any (a b : List UInt8) (ha : a.length ≤ 90) (w : World) : Calls Tryz.prog 19 #[.string ⟨a.toArray⟩, .string ⟨b.toArray⟩] w fun e w' => e = .returned (.int .i64 (slipR a b : Nat)) ∧ Below w.heap.size w w' := by
  have HS : Hid (a = b → slipR a b = 1) := fun h => by unfold slipR; rw [if_pos h]
  have HF : Hid (a ≠ b → ∀ j, j < 4 → (∀ k, k < j → b ∉ slipsL a (k + 2)) → b ∈ slipsL a (j + 2) → slipR a b = j + 2) := fun h j hj hn hm => slipR_found h hj hn hm
  have HN : Hid (a ≠ b → (∀ k, k < 4 → b ∉ slipsL a (k + 2)) → slipR a b = 0) := fun h hn => slipR_none h hn
  generalize slipR a b = R at HS HF HN ⊢
  go_enter Tryz.func19, Tryz.ntmps19
  by_cases hab : a = b
  · obtain rfl : R = 1 := HS.out hab
    subst hab
    clear HS HF HN
    go_wp2_with fail
    go_ret
    exact ⟨rfl, (by (try show Below _ _ _); repeat (with_reducible first | exact Below.refl _ _ | assumption | exact Hid.out (by assumption) | refine ext_alloc ?_ | refine ext_drewN ?_ | refine ext_drew ?_ | refine ext_setCell ?_ (Nat.le_refl _) | refine ext_setCell ?_ (Nat.le_succ _) | refine ext_trans ?_ (by assumption) | (refine ext_setCell ?_ (by simp)) | (refine ext_setCell ?_ (by simp at *; omega))))⟩
  · have HF2 := Lib.hid (HF.out hab)
    have HN2 := Lib.hid (HN.out hab)
    have hab2 : (a == b) = false := beq_eq_false_iff_ne.2 hab
    clear HS HF HN hab
    go_wp2_with fail
    have HC : Hid (∀ w9, Below (w.heap.size + 1) (w.alloc (.cells #[.int .i64 2, .int .i64 3, .int .i64 4, .int .i64 5] 3)) w9 → ∀ j, j < 4 → w9.cell? ⟨w.heap.size, j, none⟩ = some (.int .i64 ((j : Nat) + 2 : Int))) := fun w9 h9 j hj => cells_kinds h9 j hj
    have HB0 : Hid (Below w.heap.size w (w.alloc (.cells #[.int .i64 2, .int .i64 3, .int .i64 4, .int .i64 5] 3))) := (by (try show Below _ _ _); repeat (with_reducible first | exact Below.refl _ _ | assumption | exact Hid.out (by assumption) | refine ext_alloc ?_ | refine ext_drewN ?_ | refine ext_drew ?_ | refine ext_setCell ?_ (Nat.le_refl _) | refine ext_setCell ?_ (Nat.le_succ _) | refine ext_trans ?_ (by assumption) | (refine ext_setCell ?_ (by simp)) | (refine ext_setCell ?_ (by simp at *; omega))))
    have hz0 : (w.alloc (.cells #[.int .i64 2, .int .i64 3, .int .i64 4, .int .i64 5] 3)).heap.size = w.heap.size + 1 := by simp
    generalize World.alloc w _ = W0 at HC HB0 hz0 ⊢
    go_loopw [12] (fun jv wr => ∃ j : Nat, j ≤ 4 ∧ jv = .int .i64 j ∧ Hid (∀ k, k < j → b ∉ slipsL a (k + 2)) ∧ Hid (Below (w.heap.size + 1) W0 wr)) (fun jv _ => 4 - (intOf jv).toNat)
    case atStart => exact ⟨0, by omega, rfl, fun k hk => by omega, Below.refl _ _⟩
    case round =>
      obtain ⟨j, hj, rfl, HM, HB⟩ := hrel
      by_cases hlt : j < 4
      · have hltI : (j : Int) < 4 := by omega
        have c0 := HC.out wr HB.out j hlt
        have hsz := HB.out.size
        have hzw : w.heap.size < wr.heap.size := by omega
        have hsl := slipsL_len a (j + 2)
        clear hsz
        as_aux_lemma =>
          go_wp2_with fail
          refine (slipsOf_any a (j + 2) (by omega) (by omega) _).mono ?_
          rintro e w2 ⟨v, rfl, ho, hb2⟩
          have HO := Lib.hid ho
          have HB2 : Hid (Below (w.heap.size + 1) W0 w2) := HB.out.trans (hb2.mono (by omega))
          have HD := Lib.hid (fun h => HF2.out j hlt HM.out h)
          have HX : Hid (b ∉ slipsL a (j + 2) → ∀ k, k < j + 1 → b ∉ slipsL a (k + 2)) := fun h k hk => by
            rcases Nat.lt_succ_iff_lt_or_eq.1 hk with h9 | rfl
            · exact HM.out k h9
            · exact h
          clear ho hb2 c0
          generalize slipsL a (j + 2) = L at HO hsl HD HX
          have hll : L.length ≤ 1000 := by omega
          generalize L.length = n at HO hll
          clear hsl
          as_aux_lemma =>
            go_wp2_with fail
            refine (contains_own HO.out hll b).mono ?_
            rintro e w3 ⟨rfl, rfl⟩
            by_cases hm : b ∈ L
            · skip
              have hR := HD.out hm
              subst hR
              rw [decide_eq_true hm]
              clear HX HD hm
              as_aux_lemma =>
                go_wp2_with fail
                go_ret
                exact ⟨by go_num, HB0.out.trans (HB2.out.mono (by omega))⟩
            · skip
              have HM2 := Lib.hid (HX.out hm)
              rw [decide_eq_false hm]
              clear HX HD hm
              as_aux_lemma =>
                go_wp2_with fail
                go_roundw
                case rel => exact ⟨j + 1, by omega, by go_num, HM2.out, HB2.out⟩
                case measure => first | (simp [intOf]; done) | (simp [intOf]; omega)
      · obtain rfl : j = 4 := by omega
        have hR := HN2.out HM.out
        subst hR
        as_aux_lemma =>
          go_wp2_with fail
          go_ret
          exact ⟨rfl, HB0.out.trans (HB.out.mono (by omega))⟩
end Go.Proofs.YtbbbaeenngjldaaGreatDoor

set_option linter.unusedVariables false
set_option linter.unusedSimpArgs false
namespace Go.Proofs.YtbbbaeenngjldaaGreatDoor
open Go.RowKit

theorem own_lit0 (w : World) (base : Nat) (hb : base ≤ w.heap.size) : (w.alloc (.cells #[] 9)).ownsRow base 9 1 (.slice (some ⟨w.heap.size, 0, none⟩) 0 0) 0 [] := World.ownsRow_lit w #[] 0 hb (by simp only [maxLen]; omega) rfl
def ClonePost (n : Nat) (x : List (List UInt8)) (w : World) (e : Ending) (w' : World) : Prop := ∃ v', e = .returned v' ∧ w'.ownsRow w.heap.size 9 1 v' n (x.map encS) ∧ Below w.heap.size w w'
set_option maxRecDepth 100000 in
set_option maxHeartbeats 2000000 in
theorem cloneW_any (w : World) (base : Nat) (v : Value) (n : Nat) (x : List (List UInt8)) (h : w.ownsRow base 9 1 v n (x.map encS)) (hn : n ≤ 100000) : Calls Tryz.prog 225 #[v] w (ClonePost n x w) := by
  obtain ⟨i0, hi, hz0, hz1, hz2⟩ := info_parts Tryz.infoStr
  have hl : x.length = n := by have := h.1; simpa using this
  have HO := Lib.hid h
  have q24 : ∀ (w : World) (a : Option Addr) (n c n' c' : Nat), (binOp .eql 35 (.slice a n c) (.slice none n' c')).run Tryz.prog w = .ok (.bool a.isNone) w := fun w a n c n' c' => Lib.run_eql_slice_nil w _ _ a n c n' c' Tryz.underlying35
  rcases h.2 with ⟨rfl, h0⟩ | ⟨g, cap, cur, rfl, hbg, hg, _⟩
  · have hx : x = [] := List.eq_nil_of_length_eq_zero (by omega)
    subst hx
    subst h0
    clear h hl HO
    go_enter Tryz.func225, Tryz.ntmps225
    go_wp2_with fail
    go_ret
    exact ⟨_, rfl, World.ownsRow_nil _ _ _ _, (by (try show Below _ _ _); repeat (with_reducible first | exact Below.refl _ _ | assumption | exact Hid.out (by assumption) | refine ext_alloc ?_ | refine ext_drewN ?_ | refine ext_drew ?_ | refine ext_setCell ?_ (Nat.le_refl _) | refine ext_setCell ?_ (Nat.le_succ _) | refine ext_trans ?_ (by assumption) | (refine ext_setCell ?_ (by simp)) | (refine ext_setCell ?_ (by simp at *; omega))))⟩
  · have hgl : g < w.heap.size := (Array.getElem?_eq_some_iff.1 hg).1
    have HLN : Hid ((x.map encS).length = n * 1) := by show _ = _; rw [List.length_map]; omega
    have HCE : Hid (∀ (j : Nat) u, (x.map encS)[j]? = some u → (w.alloc (.cells #[] 9)).cell? ((⟨g, 0, none⟩ : Addr).add j) = some u) := fun j u hu => by
      have hj : j < x.length := by
        obtain ⟨hj, -⟩ := List.getElem?_eq_some_iff.1 hu
        simpa using hj
      rw [add0, ((Below.refl w.heap.size w).alloc (Nat.le_refl _) (.cells #[] 9)).cell (p := ⟨g, j, none⟩) hgl, HO.out.cellAt j (by omega), hu]
    have HON : Hid (∀ u ∈ x.map encS, u.oneCell' = true) := fun u hu => by
      obtain ⟨y, -, rfl⟩ := List.mem_map.1 hu
      rfl
    have HOA := Lib.hid (own_lit0 w w.heap.size (Nat.le_refl _))
    clear h hl hg
    go_enter Tryz.func225, Tryz.ntmps225
    go_wp2_with (at_builtin; refine wpList_append_own _ rfl (.tmp 5) (.tmp 6) 35 rfl w.heap.size 9 i0 (.string ⟨#[]⟩) 1 16 Tryz.underlying35 hi hz0 hz1 hz2 rfl (by decide) _ 0 _ rfl HOA.out ⟨g, 0, none⟩ n cap (x.map encS) rfl HLN.out HCE.out HON.out (by simp only [maxLen]; omega) (by omega) (by simp) ?_; intro v6 w6 hown6 hgr6 _)
    have HO6 : Hid (w6.ownsRow w.heap.size 9 1 v6 n (x.map encS)) := by
      show World.ownsRow _ _ _ _ _ _ _
      rw [Nat.zero_add, List.nil_append] at hown6
      exact hown6
    have HB6 : Hid (Below w.heap.size w w6) := upto_grown hgr6 (Nat.le_refl _) (fun b e => (HOA.out.lt b e).1)
    clear hown6 hgr6
    go_ret
    exact ⟨v6, rfl, HO6.out, HB6.out⟩
end Go.Proofs.YtbbbaeenngjldaaGreatDoor

set_option linter.unusedVariables false
set_option linter.unusedSimpArgs false
namespace Go.Proofs.YtbbbaeenngjldaaGreatDoor
open Go.RowKit Go.Sort

theorem own_short {w : World} {base : Nat} {e : TypeId} {g n cap : Nat} {A B : List Value} (h : w.ownsRow base e 1 (.slice (some ⟨g, 0, none⟩) n cap) n (A ++ B)) : w.ownsRow base e 1 (.slice (some ⟨g, 0, none⟩) A.length cap) A.length A := by
  have hl : (A ++ B).length = n := by have := h.1; simpa using this
  rcases h.2 with ⟨h0, _⟩ | ⟨g', cap', cur, hv, hb, hg, h1, h2, h3, h4⟩
  · cases h0
  · cases hv
    have hA : A.length ≤ n := by rw [← hl, List.length_append]; omega
    refine ⟨by simp, Or.inr ⟨g, cap, cur, rfl, hb, hg, by omega, h2, h3, ?_⟩⟩
    have h5 := congrArg (List.take A.length) h4
    rw [List.take_take, List.take_left, Nat.min_eq_left (by omega)] at h5
    rw [Nat.mul_one]
    exact h5
def SortPost (base : Nat) (v : Value) (n : Nat) (ys : List (List UInt8)) (w : World) (e : Ending) (w' : World) : Prop :=
  e = .returned (.tuple #[]) ∧ w'.ownsRow base 9 1 v n (ys.map encS) ∧ w.grownBy w' v.ownBlock
theorem grown_same (w : World) (r : Option Nat) : w.grownBy w r := ⟨rfl, rfl, rfl, Nat.le_refl _, fun _ _ _ => rfl⟩
theorem sort_own {w : World} {base : Nat} {v : Value} {n : Nat} {xs : List (List UInt8)} (h : w.ownsRow base 9 1 v n (xs.map encS)) (hn : n ≤ 100000) : Calls Tryz.prog 115 #[v] w (SortPost base v n (xs.mergeSort leB) w) := by
  have hl : xs.length = n := by have := h.1; simpa using this
  rcases h.2 with ⟨rfl, h0⟩ | ⟨g, cap, cur, rfl, hb, hg, h1, h2, h3, h4⟩
  · obtain rfl : xs = [] := List.eq_nil_of_length_eq_zero (by omega)
    refine (Tryz.slices_SortS_none none 0 w).mono ?_
    rintro e w' ⟨rfl, rfl⟩
    exact ⟨rfl, by simpa using h, grown_same _ _⟩
  · have hlt := (Array.getElem?_eq_some_iff.1 hg).1
    subst hl
    refine (Tryz.slices_SortS g 0 cap xs w (holds_of_block hg (by rw [Nat.mul_one] at h4; exact h4)) hlt (by omega)).mono ?_
    rintro e w' ⟨rfl, q, os, rfl⟩
    exact ⟨rfl, ownsRow_sorted (by simp) hb hg h1 h2 h3, grownBy_sorted _⟩
def CompactPost (base : Nat) (v : Value) (ys : List (List UInt8)) (w : World) (e : Ending) (w' : World) : Prop :=
  ∃ v', e = .returned v' ∧ w'.ownsRow base 9 1 v' ys.length (ys.map encS) ∧ w.grownBy w' v.ownBlock
theorem compact_own {w : World} {base : Nat} {v : Value} {n : Nat} {xs : List (List UInt8)} (h : w.ownsRow base 9 1 v n (xs.map encS)) (hn : n ≤ 100000) : Calls Tryz.prog 116 #[v] w (CompactPost base v (Lib.compact xs) w) := by
  have hl : xs.length = n := by have := h.1; simpa using this
  rcases h.2 with ⟨rfl, h0⟩ | ⟨g, cap, cur, rfl, hb, hg, h1, h2, h3, h4⟩
  · obtain rfl : xs = [] := List.eq_nil_of_length_eq_zero (by omega)
    refine (Tryz.slices_CompactS_empty none 0 w).mono ?_
    rintro e w' ⟨rfl, rfl⟩
    exact ⟨_, rfl, World.ownsRow_nil _ _ _ _, grown_same _ _⟩
  · have hlt := (Array.getElem?_eq_some_iff.1 hg).1
    subst hl
    refine (Tryz.slices_CompactS g 0 cap xs w (holds_of_block hg (by rw [Nat.mul_one] at h4; exact h4)) (by omega) h1).mono ?_
    rintro e w' ⟨rfl, q, rfl⟩
    have hcl : (Lib.compact xs).length ≤ xs.length := by
      unfold Lib.compact Lib.compactUpTo
      rw [List.length_map]
      refine Nat.le_trans (List.length_filter_le _ _) ?_
      simp
    have h5 := ownsRow_sorted (n := q) (os := #[]) (ts := Lib.compact xs ++ List.replicate (xs.length - (Lib.compact xs).length) []) (ss := xs) (by rw [List.length_append, List.length_replicate]; omega) hb hg h1 h2 h3
    have h6 := grownBy_sorted (w := w) (g := g) (n := q) (os := #[]) (Lib.compact xs ++ List.replicate (xs.length - (Lib.compact xs).length) []).toArray
    rw [grow_empty] at h5 h6
    rw [List.map_append] at h5
    have h7 := own_short h5
    rw [List.length_map] at h7
    exact ⟨_, rfl, h7, h6⟩
def OncePost (ys : List (List UInt8)) (w : World) (e : Ending) (w' : World) : Prop :=
  ∃ v', e = .returned v' ∧ w'.ownsRow w.heap.size 9 1 v' ys.length (ys.map encS) ∧ Below w.heap.size w w'
set_option maxRecDepth 100000 in
theorem once_any {w : World} {base : Nat} {v : Value} {n : Nat} {xs : List (List UInt8)} (h : w.ownsRow base 9 1 v n (xs.map encS)) (hn : n ≤ 100000) : Calls Tryz.prog 126 #[v] w (OncePost (onceL xs) w) := by
  have HO := Lib.hid h
  clear h
  go_enter Tryz.func126, Tryz.ntmps126
  go_wp2_with fail
  refine (cloneW_any _ base _ n xs HO.out hn).mono ?_
  rintro e w1 ⟨v1, rfl, ho1, hb1⟩
  have HB1 := Lib.hid hb1
  have HO1 := Lib.hid ho1
  clear ho1 hb1
  go_wp2_with fail
  refine (sort_own HO1.out hn).mono ?_
  rintro e w2 ⟨rfl, ho2, hg2⟩
  have HO2 := Lib.hid ho2
  have HB2 : Hid (Below w.heap.size w w2) := HB1.out.grown hg2 HB1.out.size (fun b e => (HO1.out.lt b e).1)
  clear ho2 hg2
  go_wp2_with fail
  refine (compact_own HO2.out hn).mono ?_
  rintro e w3 ⟨v3, rfl, ho3, hg3⟩
  have HB3 : Hid (Below w.heap.size w w3) := HB2.out.grown hg3 HB2.out.size (fun b e => (HO2.out.lt b e).1)
  have HO3 := Lib.hid ho3
  clear ho3 hg3
  go_wp2_with fail
  go_ret
  exact ⟨_, rfl, HO3.out, HB3.out⟩
end Go.Proofs.YtbbbaeenngjldaaGreatDoor

set_option linter.unusedVariables false
set_option linter.unusedSimpArgs false
namespace Go.Proofs.YtbbbaeenngjldaaGreatDoor
open Go.RowKit

theorem in_any (n lo hi : Int) (w : World) : Calls Tryz.prog 124 #[.int .i64 n, .int .i64 lo, .int .i64 hi] w fun e w' => e = .returned (.bool (decide (lo ≤ n) && decide (n ≤ hi))) ∧ w = w' := by
  by_cases h1 : lo ≤ n
  · go_enter Tryz.func124, Tryz.ntmps124
    go_wp2
    go_ret
    exact ⟨by rw [decide_eq_true h1]; rfl, rfl⟩
  · go_enter Tryz.func124, Tryz.ntmps124
    go_wp2
    go_ret
    exact ⟨by rw [decide_eq_false (show ¬ lo ≤ n by omega)]; rfl, rfl⟩

theorem digital_l (s : List UInt8) (lo hi : Int) (w : World) (hs : s.length ≤ 1000000) : Calls Tryz.prog 117 #[.string ⟨s.toArray⟩, .int .i64 lo, .int .i64 hi] w fun e w' => e = .returned (.bool (digitsB s lo hi)) ∧ Below w.heap.size w w' := by
  have hcon := trim_digits ⟨s.toArray⟩
  have hd : Hid (digitsB s lo hi = ((decide (lo ≤ (s.length : Int)) && decide ((s.length : Int) ≤ hi)) && (Lib.trimS s digitSet).isEmpty)) := by show _ = _; rw [Bool.and_assoc]; rfl
  have hcon : ∀ w, Calls Tryz.prog 219 #[.string ⟨s.toArray⟩, .string ⟨#[48, 49, 50, 51, 52, 53, 54, 55, 56, 57]⟩] w fun e w' => e = .returned (.string ⟨(Lib.trimS s digitSet).toArray⟩) ∧ Below w.heap.size w w' := fun w => hcon w (by show s.length ≤ _; omega)
  generalize Lib.trimS s digitSet = r at hcon hd
  generalize hg : (decide (lo ≤ (s.length : Int)) && decide ((s.length : Int) ≤ hi)) = g at hd
  have HG := Lib.hid hg
  have HCON := Lib.hid hcon
  clear hg hcon
  go_enter Tryz.func117, Tryz.ntmps117
  go_wp2_with fail
  refine (in_any _ lo hi _).mono ?_
  rintro e w1 ⟨rfl, rfl⟩
  rw [HG.out]
  cases g
  · go_wp2_with fail
    go_ret
    exact ⟨by rw [hd.out]; rfl, Below.refl _ _⟩
  · go_wp2_with fail
    refine (HCON.out _).mono ?_
    rintro e w2 ⟨rfl, hb⟩
    go_wp2_with fail
    go_ret
    exact ⟨by rw [hd.out]; cases r <;> rfl, hb⟩

theorem isNumB_eq (s : List UInt8) : isNumB s = (Lib.hasPrefix s [43] && (digitsB (s.drop 1) 4 15 && ((s.drop 1).headD 0 != 48))) := by
  unfold isNumB Lib.trimPrefix
  cases h : Lib.hasPrefix s [43] with
  | false => rfl
  | true => rfl

theorem form_l (s : List UInt8) (w : World) (hs : s.length ≤ 1000) : Calls Tryz.prog 122 #[.string ⟨s.toArray⟩] w fun e w' => e = .returned (.bool (isNumB s)) ∧ Below w.heap.size w w' := by
  have HD := Lib.hid (isNumB_eq s)
  have HPL : Hid (Lib.hasPrefix s [43] = true → 1 ≤ s.length) := fun h => pre_len h
  have HDL : Hid (digitsB (s.drop 1) 4 15 = true → ∃ c d, s.drop 1 = c :: d) := fun h => by
    unfold digitsB at h
    simp only [Bool.and_eq_true, decide_eq_true_eq] at h
    cases h9 : s.drop 1 with
    | nil => rw [h9] at h; simp at h
    | cons c d => exact ⟨c, d, rfl⟩
  have hcon := fun w => hasPrefix_l s [43] w
  generalize Lib.hasPrefix s [43] = g at HD HPL hcon
  have hcon2 := fun w => digital_l (s.drop 1) 4 15 w (by rw [List.length_drop]; omega)
  generalize hg2 : digitsB (s.drop 1) 4 15 = g2 at HD HDL hcon2
  generalize isNumB s = R at HD ⊢
  go_enter Tryz.func122, Tryz.ntmps122
  go_wp2_with fail
  refine (hcon _).mono ?_
  rintro e w1 ⟨rfl, rfl⟩
  cases g
  · have HF : Hid (R = false) := HD.out
    go_wp2_with fail
    go_ret
    exact ⟨by rw [HF.out]; rfl, Below.refl _ _⟩
  · have h1 := HPL.out rfl
    go_wp2_with fail
    rw [extract_drop]
    refine (hcon2 _).mono ?_
    rintro e w2 ⟨rfl, hb⟩
    have HB := Lib.hid hb
    clear hb
    cases g2
    · have HF : Hid (R = false) := HD.out
      go_wp2_with fail
      go_ret
      exact ⟨by rw [HF.out]; rfl, HB.out⟩
    · obtain ⟨c, d, hcd⟩ := HDL.out rfl
      have HF : Hid (R = (c != 48)) := by show _ = _; rw [HD.out, hcd]; rfl
      obtain ⟨x, rfl⟩ : ∃ x, s = x :: c :: d := by
        cases s with
        | nil => cases hcd
        | cons x t => exact ⟨x, by simpa using hcd⟩
      clear hcd HD hcon hcon2 hg2 HDL HPL
      go_wp2_with fail
      go_ret
      exact ⟨by rw [HF.out, ← byte_bne48]; rfl, HB.out⟩

theorem fault1_pred (code : List UInt8) (B : Nat) (w : World) (hB : B < w.heap.size) (hcell : w.cell? ⟨B, 0, none⟩ = some (.string ⟨code.toArray⟩)) :
    PredBelow Tryz.prog 120 #[.pointer (some ⟨B, 0, none⟩)] (fun x => .agg (Ctry.cells x).toArray) (fun x => Lib.hasPrefix code x.code) w := fun W x hb => by
  have hc : W.cell? ⟨B, 0, none⟩ = some (.string ⟨code.toArray⟩) := (hb.cell (p := ⟨B, 0, none⟩) hB).trans hcell
  have hBW : B < W.heap.size := Nat.lt_of_lt_of_le hB hb.size
  have hne : B ≠ W.heap.size := by omega
  obtain ⟨code2, abroad, trunk, aa, an, ac, areas⟩ := x
  show Calls Tryz.prog 120 #[.agg #[.string ⟨code2.toArray⟩, .string ⟨abroad.toArray⟩, .string ⟨trunk.toArray⟩, .slice aa an ac], .pointer (some ⟨B, 0, none⟩)] W _
  simp only
  have hcon := hasPrefix_l code code2
  generalize Lib.hasPrefix code code2 = r at hcon ⊢
  have HB := Lib.hid hb
  clear hb hcell hB
  go_enter Tryz.func120, Tryz.ntmps120
  go_wp2_with (go_at_call 121; refine (hcon _).mono ?_; rintro e w' ⟨rfl, rfl⟩)
  go_ret
  exact ⟨rfl, HB.out.trans ((ext_alloc (Below.refl _ _)).mono HB.out.size)⟩
end Go.Proofs.YtbbbaeenngjldaaGreatDoor

set_option linter.unusedVariables false
set_option linter.unusedSimpArgs false
namespace Go.Proofs.YtbbbaeenngjldaaGreatDoor
open Go.RowKit

def PartsPost (x : Spl) (w : World) (e : Ending) (w' : World) : Prop := e = .returned (.tuple #[.agg #[.string ⟨x.code.toArray⟩, .string ⟨x.area.toArray⟩, .string ⟨x.rest.toArray⟩], .int .i64 x.err]) ∧ Below w.heap.size w w'
theorem row3 (w : World) (B : Nat) (v0 v1 v2 : Value) : ((w.setCell ⟨B, 0, none⟩ v0).setCell ⟨B, 1, none⟩ v1).setCell ⟨B, 2, none⟩ v2 = w.setCells B 0 [v0, v1, v2] := rfl
theorem there3 {w : World} {B : Nat} {v0 v1 v2 : Value} (h0 : w.cell? ⟨B, 0, none⟩ = some v0) (h1 : w.cell? ⟨B, 1, none⟩ = some v1) (h2 : w.cell? ⟨B, 2, none⟩ = some v2) (hf : ∀ j, w.frozen? ⟨B, j, none⟩ = false) : w.there B 0 3 := fun j hj => by
  match j, hj with
  | 0, _ => exact ⟨by rw [h0]; rfl, hf _⟩
  | 1, _ => exact ⟨by rw [h1]; rfl, hf _⟩
  | 2, _ => exact ⟨by rw [h2]; rfl, hf _⟩

end Go.Proofs.YtbbbaeenngjldaaGreatDoor
