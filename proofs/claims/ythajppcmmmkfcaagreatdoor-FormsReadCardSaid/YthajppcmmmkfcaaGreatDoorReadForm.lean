/- What is proved here: what ReadForm of package number reads out of a form. Condition: the plan lies in memory as stated. -/
import Derived.Test.YthajppcmmmkfcaaGreatDoorReadRef
import Derived.Test.YthajppcmmmkfcaaGreatDoorFormWalk
import Derived.Test.YthajppcmmmkfcaaGreatDoorReach
set_option linter.unusedVariables false
set_option linter.unusedSimpArgs false
namespace Go.Proofs.YthajppcmmmkfcaaGreatDoor
open Go.RowKit

def readTop (l : List Ctry) (code area s : List UInt8) : Int × List UInt8 :=
  if planErr l ≠ 0 then (planErr l, []) else match homeC l code area with
    | none => (8, [])
    | some c => readP l c area s

set_option maxRecDepth 100000 in
set_option maxHeartbeats 4000000 in
theorem readForm_any (w : World) (a : Option Addr) (n cap : Nat) (l : List Ctry) (hr : CtryRow w a n l) (hcap : n ≤ cap) (hne : 1 ≤ n) (hna : ∀ i, i < l.length → 1 ≤ (l.getD i noCtry).an) (code0 area s : List UInt8) (ha : area.length ≤ 100) (hs : s.length ≤ 1000) :
    Calls Tryz.prog 30 #[.slice a n cap, .agg #[.string ⟨code0.toArray⟩, .string ⟨area.toArray⟩], .string ⟨s.toArray⟩] w (StrPost (readTop l code0 area s) w) := by
  have HR := Lib.hid hr
  have HNA := Lib.hid hna
  have HDEF : Hid (readTop l code0 area s = if planErr l ≠ 0 then (planErr l, ([] : List UInt8)) else match homeC l code0 area with | none => (8, []) | some c => readP l c area s) := rfl
  generalize readTop l code0 area s = R at HDEF ⊢
  obtain ⟨i0, hi, hz0, hz1, hz2⟩ := info_parts Tryz.infoByte
  clear hr hna
  go_enter Tryz.func30, Tryz.ntmps30
  go_wp2_with fail
  refine (open_any _ a n cap l (HR.out.below (ext_alloc (Below.refl _ _))) hcap hne code0 area).mono ?_
  rintro e w1 ⟨hcase, hb1⟩
  have HB1 : Hid (Below w.heap.size w w1) := ext_trans (ext_alloc (Below.refl _ _)) hb1
  have h0 : w1.cell? ⟨w.heap.size, 0, none⟩ = some (.string ⟨code0.toArray⟩) := (hb1.cell (p := ⟨w.heap.size, 0, none⟩) (by simp)).trans (by go_simp)
  have h1 : w1.cell? ⟨w.heap.size, 1, none⟩ = some (.string ⟨area.toArray⟩) := (hb1.cell (p := ⟨w.heap.size, 1, none⟩) (by simp)).trans (by go_simp)
  have hz1' : w.heap.size < w1.heap.size := by have := hb1.size; simp at this; omega
  clear hb1
  rcases hcase with ⟨c, hpe, hhc, rfl⟩ | ⟨er, her, hcase, rfl⟩
  · have hcl := ctry_len HR.out (p := homeP code0 area) hhc
    have HD2 : Hid (R = readP l c area s) := by
      show _ = _
      rw [HDEF.out, if_neg (by simp [hpe]), hhc]
    have HD3 : Hid (readP l c area s = if 60 < s.length then ((2 : Int), ([] : List UInt8)) else match readB s [] with
      | none => (9, [])
      | some [] => (9, [])
      | some (x :: n) => if x = 43 then (if (splitP l (x :: n)).err ≠ 0 then ((splitP l (x :: n)).err, []) else (0, x :: n)) else if 30 < (x :: n).length then (2, []) else reachP l c area (x :: n)) := rfl
    have HRE := Lib.hid (fun (W : World) (hB : Below w.heap.size w W) (d : List UInt8) (hd : d.length ≤ 1000) => reached_any W a n cap l (HR.out.below hB) hne HNA.out c hcl.1 hcl.2.1 hcl.2.2 code0 area d ha hd)
    clear HDEF hpe hhc
    generalize homeX c area = x
    obtain ⟨xp, xl, xh⟩ := x
    obtain ⟨code, abroad, trunk, aa, an, ac, areas⟩ := c
    obtain ⟨q1, q2, q3⟩ := hcl
    simp only [Ctry.cells, Area.cells] at q1 q2 q3 HRE ⊢
    by_cases hbig : 60 < s.length
    · have HF : Hid (R = (2, [])) := by show _ = _; rw [HD2.out, HD3.out, if_pos hbig]
      as_aux_lemma =>
        go_wp2_with fail
        go_ret2
        exact ⟨by rw [HF.out]; rfl, (by (try show Below _ _ _); repeat (with_reducible first | exact Below.refl _ _ | assumption | exact Hid.out (by assumption) | refine ext_alloc ?_ | refine ext_drewN ?_ | refine ext_drew ?_ | refine ext_setCell ?_ (Nat.le_refl _) | refine ext_setCell ?_ (Nat.le_succ _) | refine ext_trans ?_ (by assumption) | (refine ext_setCell ?_ (by simp)) | (refine ext_setCell ?_ (by simp at *; omega))))⟩
    · have HD4 : Hid (R = match readB s [] with
        | none => (9, [])
        | some [] => (9, [])
        | some (x :: n) => if x = 43 then (if (splitP l (x :: n)).err ≠ 0 then ((splitP l (x :: n)).err, []) else (0, x :: n)) else if 30 < (x :: n).length then (2, []) else reachP l ⟨code, abroad, trunk, aa, an, ac, areas⟩ area (x :: n)) := by show _ = _; rw [HD2.out, HD3.out, if_neg hbig]
      clear HD2 HD3
      as_aux_lemma =>
        go_wp2_with fail
        have HBX : Hid (Below w.heap.size w ((w1.alloc (.cells #[.string ⟨code.toArray⟩, .string ⟨abroad.toArray⟩, .string ⟨trunk.toArray⟩, .slice aa an ac] 68)).alloc (.cells #[.string ⟨xp.toArray⟩, .int .i64 xl, .int .i64 xh] 72))) := (by (try show Below _ _ _); repeat (with_reducible first | exact Below.refl _ _ | assumption | exact Hid.out (by assumption) | refine ext_alloc ?_ | refine ext_drewN ?_ | refine ext_drew ?_ | refine ext_setCell ?_ (Nat.le_refl _) | refine ext_setCell ?_ (Nat.le_succ _) | refine ext_trans ?_ (by assumption) | (refine ext_setCell ?_ (by simp)) | (refine ext_setCell ?_ (by simp at *; omega))))
        have HEN : Hid (∀ wr, Below ((w1.alloc (.cells #[.string ⟨code.toArray⟩, .string ⟨abroad.toArray⟩, .string ⟨trunk.toArray⟩, .slice aa an ac] 68)).alloc (.cells #[.string ⟨xp.toArray⟩, .int .i64 xl, .int .i64 xh] 72)).heap.size ((w1.alloc (.cells #[.string ⟨code.toArray⟩, .string ⟨abroad.toArray⟩, .string ⟨trunk.toArray⟩, .slice aa an ac] 68)).alloc (.cells #[.string ⟨xp.toArray⟩, .int .i64 xl, .int .i64 xh] 72)) wr →
            (wr.cell? ⟨w.heap.size, 0, none⟩ = some (.string ⟨code0.toArray⟩) ∧ wr.cell? ⟨w.heap.size, 1, none⟩ = some (.string ⟨area.toArray⟩) ∧ wr.cell? ⟨w1.heap.size, 0, none⟩ = some (.string ⟨code.toArray⟩) ∧ wr.cell? ⟨w1.heap.size, 1, none⟩ = some (.string ⟨abroad.toArray⟩) ∧ wr.cell? ⟨w1.heap.size, 2, none⟩ = some (.string ⟨trunk.toArray⟩) ∧ wr.cell? ⟨w1.heap.size, 3, none⟩ = some (.slice aa an ac)) ∧ w1.heap.size < wr.heap.size) := fun wr hb => by
          have hz := hb.size
          simp at hz
          exact ⟨⟨(hb.cell (p := ⟨w.heap.size, 0, none⟩) (by simp; omega)).trans (by go_simp), (hb.cell (p := ⟨w.heap.size, 1, none⟩) (by simp; omega)).trans (by go_simp), (hb.cell (p := ⟨w1.heap.size, 0, none⟩) (by simp; omega)).trans (by go_simp), (hb.cell (p := ⟨w1.heap.size, 1, none⟩) (by simp; omega)).trans (by go_simp), (hb.cell (p := ⟨w1.heap.size, 2, none⟩) (by simp; omega)).trans (by go_simp), (hb.cell (p := ⟨w1.heap.size, 3, none⟩) (by simp; omega)).trans (by go_simp)⟩, by omega⟩
        clear h0 h1
        generalize (World.alloc (w1.alloc _) _) = W1 at HBX HEN ⊢
        go_loopw [11, 32] (fun v i wr => ∃ (k : Nat) (o : List UInt8), k ≤ s.length ∧ i = .int .i64 k ∧ o.length ≤ k ∧ Hid (readB (s.drop k) o = readB s []) ∧ Hid (wr.ownsRow W1.heap.size 5 1 v o.length (cellsB o)) ∧ Hid (Below W1.heap.size W1 wr)) (fun _ i _ => s.length - (intOf i).toNat)
        case atStart => exact ⟨0, [], by omega, rfl, Nat.le_refl _, rfl, World.ownsRow_nil _ _ _ _, Below.refl _ _⟩
        case round =>
          obtain ⟨k, o, hk, rfl, hol, HG, HO, HB⟩ := hrel
          by_cases hlt : k < s.length
          · have hidx : k < (⟨s.toArray⟩ : ByteArray).size := hlt
            have HSA := Lib.hid (str_at hlt hidx)
            generalize hc : s.getD k 0 = c at HSA
            have HDA := Lib.hid (drop_at hlt hc)
            clear hc
            have HKEY := Lib.hid (fun w => key_any c w)
            have HSEP := Lib.hid (fun w => sep_l c w)
            have HRW := Lib.hid (fun b e => (HO.out.lt b e).1)
            have HREST : Hid (Below W1.heap.size W1 wr) := HB
            go_wp2_with fail
            rw [HSA.out]
            refine (HSEP.out _).mono ?_
            rintro e w'' ⟨r, rfl, hr1, hr2, rfl⟩
            cases hsp : sepB c
            · have hrn := hr2 hsp
              have HNS := Lib.hid hsp
              clear hr1 hr2 hsp
              as_aux_lemma =>
                go_wp2_with fail
                rw [HSA.out]
                refine (HKEY.out _).mono ?_
                rintro e w' ⟨rfl, rfl⟩
                have HQ : Hid (∀ q, (keyB c).toNat = q → (keyB c).toNat = q) := fun q h => h
                generalize hq : (keyB c).toNat = q
                have HQE := Lib.hid (HQ.out q hq)
                clear hq HQ
                by_cases h0 : q = 0
                · subst h0
                  have hk0 : keyB c = 0 := UInt8.toNat_inj.1 (by simpa using HQE.out)
                  have HK0 := Lib.hid hk0
                  clear hk0
                  obtain ⟨av, cv, rfl⟩ := own_sl HO.out
                  have HBADR : Hid (¬ (c = 43 ∧ o = []) → R = (9, [])) := fun h1 => by
                    rw [HD4.out, ← HG.out, HDA.out, read_bad HK0.out h1 HNS.out]
                  by_cases hp : c = 43
                  · subst hp
                    have h43 : ((((⟨s.toArray⟩ : ByteArray)[k]'hidx).toNat : Int) == 43) = true := by rw [HSA.out]; rfl
                    by_cases ho : o = []
                    · subst ho
                      have HOA := Lib.hid (HO.out.alloc (.cells #[.int .u8 43] 5))
                      as_aux_lemma =>
                        go_wp2_with (at_builtin; refine wpList_append_own _ rfl (.tmp 61) (.tmp 62) 108 rfl W1.heap.size 5 i0 (.int .u8 0) 1 1 Tryz.underlying108 hi hz0 hz1 hz2 rfl (by decide) _ 0 _ rfl HOA.out ⟨w'.heap.size, 0, none⟩ 1 1 [.int .u8 43] rfl rfl (news_one (by go_simp)) (by simp [Value.oneCell']) (by simp only [maxLen]; omega) (by omega) (by have := HREST.out.size; simp; omega) ?_; intro v6 w6 hown6 hgr6 _)
                        have HO7 : Hid (w6.ownsRow W1.heap.size 5 1 v6 [(43 : UInt8)].length (cellsB [43])) := hown6
                        have hup : Below W1.heap.size w' w6 := upto_grown hgr6 HREST.out.size HRW.out
                        have HB7 : Hid (Below W1.heap.size W1 w6) := HB.out.trans hup
                        have HG7 : Hid (readB (s.drop (k + 1)) [43] = readB s []) := by
                          show _ = _
                          rw [← HG.out, HDA.out, read_plus]
                        clear hown6 hgr6 hup
                        go_roundw
                        case rel => exact ⟨k + 1, [43], by omega, by go_num, by simp, HG7, HO7, HB7⟩
                        case measure => simp [intOf]; omega
                    · have HF : Hid (R = (9, [])) := HBADR.out (fun h => ho h.2)
                      have hol0 : 0 < o.length := List.length_pos_iff.2 ho
                      have hne0 : ((o.length : Int) == 0) = false := by simp; omega
                      as_aux_lemma =>
                        go_wp2_with fail
                        go_ret2
                        exact ⟨by rw [HF.out]; rfl, ext_trans HBX.out HB.out⟩
                  · have h43 : ((((⟨s.toArray⟩ : ByteArray)[k]'hidx).toNat : Int) == 43) = false := by
                      rw [HSA.out]
                      simp only [beq_eq_false_iff_ne, ne_eq]
                      intro h
                      exact hp (UInt8.toNat_inj.1 (by show c.toNat = 43; omega))
                    have HF : Hid (R = (9, [])) := HBADR.out (fun h => hp h.1)
                    clear hp
                    as_aux_lemma =>
                      go_wp2_with fail
                      go_ret2
                      exact ⟨by rw [HF.out]; rfl, ext_trans HBX.out HB.out⟩
                · have hne : ((q : Int) == 0) = false := by simp; omega
                  have hq0 : (0 : Int) < (q : Int) := by omega
                  have HOA := Lib.hid (HO.out.alloc (.cells #[.int .u8 q] 5))
                  as_aux_lemma =>
                    go_wp2_with (at_builtin; refine wpList_append_own _ rfl (.tmp 47) (.tmp 49) 108 rfl W1.heap.size 5 i0 (.int .u8 0) 1 1 Tryz.underlying108 hi hz0 hz1 hz2 rfl (by decide) _ o.length _ rfl HOA.out ⟨w'.heap.size, 0, none⟩ 1 1 [.int .u8 q] rfl rfl (news_one (by go_simp)) (by simp [Value.oneCell']) (by simp only [maxLen]; omega) (by omega) (by have := HREST.out.size; simp; omega) ?_; intro v6 w6 hown6 hgr6 _)
                    have HO7 : Hid (w6.ownsRow W1.heap.size 5 1 v6 (o ++ [keyB c]).length (cellsB (o ++ [keyB c]))) := by
                      show World.ownsRow _ _ _ _ _ _ _
                      rw [cells_snoc, HQE.out, List.length_append]
                      exact hown6
                    have hup : Below W1.heap.size w' w6 := upto_grown hgr6 HREST.out.size HRW.out
                    have HB7 : Hid (Below W1.heap.size W1 w6) := HB.out.trans hup
                    have HG7 : Hid (readB (s.drop (k + 1)) (o ++ [keyB c]) = readB s []) := by
                      show _ = _
                      rw [← HG.out, HDA.out, read_key (fun h9 => h0 (by rw [← HQE.out, h9]; rfl))]
                    clear hown6 hgr6 hup
                    go_roundw
                    case rel => exact ⟨k + 1, _, by omega, by go_num, by simp; omega, HG7, HO7, HB7⟩
                    case measure => simp [intOf]; omega
            · have hrn := hr1 hsp
              have HG7 : Hid (readB (s.drop (k + 1)) o = readB s []) := by
                show _ = _
                rw [← HG.out, HDA.out, read_sep hsp]
              clear hr1 hr2 hsp
              as_aux_lemma =>
                go_wp2_with fail
                go_roundw
                case rel => exact ⟨k + 1, o, by omega, by go_num, by omega, HG7, HO, HB⟩
                case measure => simp [intOf]; omega
          · skip
            obtain rfl : k = s.length := by omega
            have hro : readB s [] = some o := by rw [← HG.out, List.drop_length]; rfl
            have hlen : o.length ≤ 60 := by omega
            have HBW : Hid (Below w.heap.size w wr) := ext_trans HBX.out HB.out
            have HE2 := Lib.hid (HEN.out wr HB.out)
            have HD5 : Hid (R = match (some o : Option (List UInt8)) with
              | none => (9, [])
              | some [] => (9, [])
              | some (x :: n) => if x = 43 then (if (splitP l (x :: n)).err ≠ 0 then ((splitP l (x :: n)).err, []) else (0, x :: n)) else if 30 < (x :: n).length then (2, []) else reachP l ⟨code, abroad, trunk, aa, an, ac, areas⟩ area (x :: n)) := by show _ = _; rw [HD4.out, hro]
            have HO2 := HO.out
            have hcvx : ∃ av cv, u11 = Value.slice av o.length cv ∧ (convert 108 9 (.slice av o.length cv)).run Tryz.prog wr = .ok (.string ⟨o.toArray⟩) wr := by
              rcases HO2.2 with ⟨rfl, h0⟩ | ⟨g, cv, cur, rfl, _⟩
              · have hy : o = [] := List.eq_nil_of_length_eq_zero h0
                subst hy
                exact ⟨none, 0, rfl, run_convert_bytes_nil (P := Tryz.prog) wr 108 5 Tryz.underlying108 Tryz.underlying5 0 0 9 Tryz.underlying9⟩
              · exact ⟨_, _, rfl, str_back wr g cv o (fun j hj => by
                  rw [HO2.cellAt j (by omega), cellsB, List.getElem?_map, List.getElem?_eq_getElem hj]; rfl)⟩
            obtain ⟨av, cv, rfl, hcv2⟩ := hcvx
            clear HO2 hro HD4 HG HO
            cases o with
            | nil =>
              simp only [List.length_nil] at hcv2
              have HF : Hid (R = (9, [])) := HD5.out
              as_aux_lemma =>
                go_wp2_with fail
                go_ret2
                exact ⟨by rw [HF.out]; rfl, HBW.out⟩
            | cons x m =>
              simp only [List.length_cons] at hcv2
              by_cases hx : x = 43
              · subst hx
                have HF : Hid (R = if (splitP l (43 :: m)).err ≠ 0 then ((splitP l (43 :: m)).err, []) else (0, 43 :: m)) := HD5.out
                have hsl : (43 :: m).length ≤ 1000 := by omega
                as_aux_lemma =>
                  go_wp2_with fail
                  refine (split_any _ a n cap l (HR.out.below HBW.out) hne HNA.out (43 :: m) hsl).mono ?_
                  rintro e w5 ⟨y0, y1, y2, ya, yn, yc, y4, y5, y6, rfl, hb5⟩
                  have HB5 : Hid (Below w.heap.size w w5) := ext_trans HBW.out hb5
                  clear hb5
                  generalize splitP l (43 :: m) = X at HF ⊢
                  obtain ⟨er, x1, x2, x3⟩ := X
                  simp only at HF ⊢
                  by_cases he : er = 0
                  · subst he
                    have HF2 : Hid (R = (0, 43 :: m)) := HF.out
                    go_wp2_with fail
                    go_ret2
                    exact ⟨by rw [HF2.out]; rfl, ext_alloc HB5.out⟩
                  · have HF2 : Hid (R = (er, [])) := by show _ = _; rw [HF.out, if_pos he]
                    go_wp2_with fail
                    go_ret2
                    exact ⟨by rw [HF2.out]; rfl, ext_alloc HB5.out⟩
              · have HD6 : Hid (R = if 30 < (x :: m).length then (2, []) else reachP l ⟨code, abroad, trunk, aa, an, ac, areas⟩ area (x :: m)) := by show _ = _; rw [HD5.out]; simp only; rw [if_neg hx]
                have hx43 : ((x.toNat : Int) == 43) = false := by
                  simp only [beq_eq_false_iff_ne, ne_eq]
                  intro h
                  exact hx (UInt8.toNat_inj.1 (by show x.toNat = 43; omega))
                have hx0 : ((((⟨(x :: m).toArray⟩ : ByteArray)[0]'(by show 0 < m.length + 1; omega)).toNat : Int) == 43) = false := hx43
                clear HD5 hx43
                by_cases h30 : 30 < (x :: m).length
                · have HF : Hid (R = (2, [])) := by show _ = _; rw [HD6.out, if_pos h30]
                  have h31 : 30 < m.length + 1 := h30
                  as_aux_lemma =>
                    go_wp2_with fail
                    go_ret2
                    exact ⟨by rw [HF.out]; rfl, HBW.out⟩
                · have HF : Hid (R = reachP l ⟨code, abroad, trunk, aa, an, ac, areas⟩ area (x :: m)) := by show _ = _; rw [HD6.out, if_neg h30]
                  have h31 : ¬ (30 < m.length + 1) := h30
                  have hsl : (x :: m).length ≤ 1000 := by omega
                  obtain ⟨⟨q0, q1, q2, q3, q4, q5⟩, hz9⟩ := HE2.out
                  have hwz : w.heap.size < wr.heap.size := by omega
                  clear HE2
                  as_aux_lemma =>
                    go_wp2_with fail
                    refine (HRE.out _ HBW.out (x :: m) hsl).mono ?_
                    rintro e w5 ⟨rfl, hb5⟩
                    have HB5 : Hid (Below w.heap.size w w5) := ext_trans HBW.out hb5
                    clear hb5
                    rw [← HF.out]
                    go_wp2_with fail
                    go_ret2
                    exact ⟨rfl, HB5.out⟩
  · have HF : Hid (R = (er, [])) := by
      show _ = _
      rcases hcase with h | ⟨h, rfl, h2⟩
      · rw [HDEF.out, if_pos (by rw [h]; exact her), h]
      · rw [HDEF.out, if_neg (by simp [h]), h2]
    clear HDEF hcase
    simp only [Ctry.cells, Area.cells, noCtry, noArea]
    as_aux_lemma =>
      go_wp2_with fail
      go_ret2
      exact ⟨by rw [HF.out]; rfl, (by (try show Below _ _ _); repeat (with_reducible first | exact Below.refl _ _ | assumption | exact Hid.out (by assumption) | refine ext_alloc ?_ | refine ext_drewN ?_ | refine ext_drew ?_ | refine ext_setCell ?_ (Nat.le_refl _) | refine ext_setCell ?_ (Nat.le_succ _) | refine ext_trans ?_ (by assumption) | (refine ext_setCell ?_ (by simp)) | (refine ext_setCell ?_ (by simp at *; omega))))⟩
end Go.Proofs.YthajppcmmmkfcaaGreatDoor
