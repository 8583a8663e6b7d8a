/- What is proved here: lemmas and contracts for the statement, put together out of smaller texts (LawDialling). No condition beyond those stated. -/
import Derived.Test.YthajppcmmmkfcaaGreatDoorDpPkG
import Derived.Test.YthajppcmmmkfcaaGreatDoorDpPkI
import Derived.Test.YthajppcmmmkfcaaGreatDoorDpPkD
set_option linter.unusedVariables false
set_option linter.unusedSimpArgs false
namespace Go.Proofs.YthajppcmmmkfcaaGreatDoor
open Go.RowKit

theorem digitsFault_any (s : List UInt8) (w : World) (hs : s.length ≤ 1000000) : Calls Tryz.prog 15 #[.string ⟨s.toArray⟩] w (ErrPost (if digitsB s 1 30 = true then 0 else 3) w) := by
  have HD := Lib.hid (fun W => digital_l s 1 30 W hs)
  generalize digitsB s 1 30 = g at HD ⊢
  cases g
  · go_enter Tryz.func15, Tryz.ntmps15
    go_wp2_with fail
    refine (HD.out _).mono ?_
    rintro e w1 ⟨rfl, hb1⟩
    have HB := Lib.hid hb1
    clear hb1
    go_wp2_with fail
    go_ret
    exact ⟨rfl, HB.out⟩
  · go_enter Tryz.func15, Tryz.ntmps15
    go_wp2_with fail
    refine (HD.out _).mono ?_
    rintro e w1 ⟨rfl, hb1⟩
    have HB := Lib.hid hb1
    clear hb1
    go_wp2_with fail
    go_ret
    exact ⟨rfl, HB.out⟩
theorem when_any (b : Bool) (e : Int) (w : World) : Calls Tryz.prog 14 #[.bool b, .int .i64 e] w fun r w' => r = .returned (.int .i64 (if b = true then e else 0)) ∧ w = w' := by
  cases b
  · go_enter Tryz.func14, Tryz.ntmps14
    go_wp2_with fail
    go_ret
    exact ⟨rfl, rfl⟩
  · go_enter Tryz.func14, Tryz.ntmps14
    go_wp2_with fail
    go_ret
    exact ⟨rfl, rfl⟩
def firstE (a b : Int) : Int := if a ≠ 0 then a else b
set_option maxRecDepth 100000 in
theorem or_any (a b : Int) (B : Nat) (w : World) (hB : B < w.heap.size) (h0 : w.cell? ⟨B, 0, none⟩ = some (.int .i64 a)) (h1 : w.cell? ⟨B, 1, none⟩ = some (.int .i64 b)) : Calls Tryz.prog 12 #[.slice (some ⟨B, 0, none⟩) 2 2] w fun r w' => r = .returned (.int .i64 (firstE a b)) ∧ w = w' := by
  by_cases ha : a = 0
  · subst ha
    by_cases hb : b = 0
    · subst hb
      go_enter Tryz.func12, Tryz.ntmps12
      go_wp2_with fail
      go_loopw [8] (fun i wr => ∃ k : Nat, k ≤ 2 ∧ i = .int .i64 k ∧ wr = w) (fun i _ => 2 - (intOf i).toNat)
      case atStart => exact ⟨0, by omega, rfl, rfl⟩
      case round =>
        obtain ⟨k, hk, rfl, rfl⟩ := hrel
        have hkc : k = 0 ∨ k = 1 ∨ k = 2 := by omega
        rcases hkc with rfl | rfl | rfl
        · go_wp2_with fail
          go_roundw
          case rel => exact ⟨1, by omega, by go_num, trivial⟩
          case measure => simp [intOf]
        · go_wp2_with fail
          go_roundw
          case rel => exact ⟨2, by omega, by go_num, trivial⟩
          case measure => simp [intOf]
        · go_wp2_with fail
          go_ret
          exact ⟨rfl, rfl⟩
    · have hbb : (b == 0) = false := by simpa using hb
      go_enter Tryz.func12, Tryz.ntmps12
      go_wp2_with fail
      go_loopw [8] (fun i wr => ∃ k : Nat, k ≤ 1 ∧ i = .int .i64 k ∧ wr = w) (fun i _ => 2 - (intOf i).toNat)
      case atStart => exact ⟨0, by omega, rfl, rfl⟩
      case round =>
        obtain ⟨k, hk, rfl, rfl⟩ := hrel
        have hkc : k = 0 ∨ k = 1 := by omega
        rcases hkc with rfl | rfl
        · go_wp2_with fail
          go_roundw
          case rel => exact ⟨1, by omega, by go_num, trivial⟩
          case measure => simp [intOf]
        · go_wp2_with fail
          go_ret
          exact ⟨rfl, rfl⟩
  · have hab : (a == 0) = false := by simpa using ha
    have HF : Hid (firstE a b = a) := by show _ = _; unfold firstE; rw [if_pos ha]
    go_enter Tryz.func12, Tryz.ntmps12
    go_wp2_with fail
    go_loopw [8] (fun i wr => i = .int .i64 0 ∧ wr = w) (fun i _ => 0)
    case atStart => exact ⟨rfl, rfl⟩
    case round =>
      obtain ⟨rfl, rfl⟩ := hrel
      go_wp2_with fail
      go_ret
      exact ⟨by rw [HF.out]; rfl, rfl⟩

theorem digits_zero (d : List UInt8) : digitsB d 0 30 = (d.isEmpty || digitsB d 1 30) := by
  rw [Bool.eq_iff_iff, Bool.or_eq_true, digitsB_iff, digitsB_iff, List.isEmpty_iff]
  cases d with
  | nil => simp [digs]
  | cons x t =>
    simp only [List.length_cons]
    constructor
    · rintro ⟨h1, h2, h3⟩; exact Or.inr ⟨by omega, h2, h3⟩
    · rintro (h | ⟨h1, h2, h3⟩)
      · cases h
      · exact ⟨by omega, h2, h3⟩

set_option maxRecDepth 100000 in
set_option maxHeartbeats 8000000 in
theorem dialling_true (w : World) (a : Option Addr) (len cap : Nat) (zs : List Int) (hr : ArgRow w a len cap zs) :
    Calls Tryz.prog 3 #[.slice a len cap] w fun e w' => e = .returned (.bool true) ∧ Below w.heap.size w w' := by
  have HS0 := Lib.hid (stream_start hr)
  clear hr
  go_enter Tryz.func3, Tryz.ntmps3
  go_wp2_with fail
  refine (countries_any w.heap.size 0 _ HS0.out (by omega)).mono ?_
  rintro e w1 ⟨P, l, rfl, hrow, hna, hst1, hk1⟩
  have HR := Lib.hid hrow
  have HNA := Lib.hid hna
  have HS1 := Lib.hid hst1
  have HK1 := Lib.hid hk1
  clear hrow hna hst1 hk1 HS0
  as_aux_lemma =>
    go_wp2_with fail
    refine (home_drawn w.heap.size 20 _ HS1.out (by omega)).mono ?_
    rintro e w2 ⟨code, area, rfl, hco, har, hst2, hk2⟩
    have HK2 := Lib.hid (HK1.out.trans hk2)
    have HR2 : Hid (∀ w9, Keeps w.heap.size w2 w9 → CtryRow w9 (some ⟨P, 0, none⟩) 3 l) := fun w9 h9 => HR.out w9 (hk2.trans h9)
    have HS2 := Lib.hid hst2
    clear hst2 hk2 HR HS1 HK1
    as_aux_lemma =>
      go_upto_region 3 with (fail)
      have HKB : Hid (Keeps w.heap.size w2 (w2.alloc (.cells #[.string ⟨code.toArray⟩, .string ⟨area.toArray⟩] 29))) := (Keeps.refl _ w2).alloc _
      have HSB : Hid (StreamOk (w2.alloc (.cells #[.string ⟨code.toArray⟩, .string ⟨area.toArray⟩] 29)) w.heap.size 23) := HS2.out.below (ext_alloc (Below.refl _ _))
      have hwl := HS2.out.lt
      have HC0 : Hid (∀ w9, Keeps w.heap.size (w2.alloc (.cells #[.string ⟨code.toArray⟩, .string ⟨area.toArray⟩] 29)) w9 → w9.cell? ⟨w2.heap.size, 0, none⟩ = some (.string ⟨code.toArray⟩) ∧ w9.cell? ⟨w2.heap.size, 1, none⟩ = some (.string ⟨area.toArray⟩) ∧ w2.heap.size < w9.heap.size) := fun w9 h9 => ⟨(h9.cell (p := ⟨w2.heap.size, 0, none⟩) (by simp) (by show w2.heap.size ≠ w.heap.size; omega)).trans (by go_simp), (h9.cell (p := ⟨w2.heap.size, 1, none⟩) (by simp) (by show w2.heap.size ≠ w.heap.size; omega)).trans (by go_simp), by have := h9.size; simp at this; omega⟩
      generalize World.alloc w2 _ = W0 at HKB HSB HC0 ⊢
      generalize w2.heap.size = D at HC0 hwl ⊢
      obtain ⟨c0, c1, hz⟩ := HC0.out W0 (Keeps.refl _ _)
      as_aux_lemma =>
        go_wp2_with fail
        refine (digits_any w.heap.size 23 _ (some ⟨P, 0, none⟩) 3 3 l code area HSB.out (by omega) (fun w9 h9 => HR2.out w9 (HKB.out.trans h9)) (by omega) (by omega) HNA.out hco har).mono ?_
        rintro e w3 ⟨d, rfl, hd, hst3, hk3⟩
        have HK3 := Lib.hid hk3
        have HS3 := Lib.hid hst3
        clear hst3 hk3 c0 c1 hz HSB HS2 HS3
        have HRW : Hid (∀ w9, Below w3.heap.size w3 w9 → CtryRow w9 (some ⟨P, 0, none⟩) 3 l) := fun w9 h9 => HR2.out w9 (HKB.out.trans (HK3.out.trans (Keeps.of_below h9)))
        have HCW : Hid (∀ w9, Below w3.heap.size w3 w9 → w9.cell? ⟨D, 0, none⟩ = some (.string ⟨code.toArray⟩) ∧ w9.cell? ⟨D, 1, none⟩ = some (.string ⟨area.toArray⟩) ∧ D < w9.heap.size) := fun w9 h9 => HC0.out w9 (HK3.out.trans (Keeps.of_below h9))
        have HEND : Hid (∀ w9, Below w3.heap.size w3 w9 → Below w.heap.size w w9) := fun w9 h9 => law_end (HK2.out.trans (HKB.out.trans (HK3.out.trans (Keeps.of_below h9))))
        clear HC0 HKB HR2 HK2 HK3
        have HAN : Hid (∀ i, i < l.length → (l.getD i noCtry).an = (l.getD i noCtry).areas.length) := fun i hi => ((HRW.out w3 (Below.refl _ _)).each i hi).row.len
        have HP0 : Hid (progTop l code area d = if planErr l ≠ 0 then (planErr l, (0 : Int)) else match homeC l code area with | none => (8, 0) | some c => if digitsB d 0 30 = false then (3, 0) else (0, progN (decide ((reachP l c area d).1 = 0)) (longerP l c (homeX c area) d))) := rfl
        have HPR := Lib.hid (fun W hW => progress_any W (some ⟨P, 0, none⟩) 3 3 l hW (by omega) (by omega) HNA.out code area d har hd)
        generalize progTop l code area d = PT at HP0 HPR
        obtain ⟨pe, pn⟩ := PT
        obtain ⟨c0, c1, hz⟩ := HCW.out w3 (Below.refl _ _)
        as_aux_lemma =>
          go_wp2_with fail
          refine (HPR.out _ (HRW.out _ (Below.refl _ _))).mono ?_
          rintro e w5 ⟨rfl, hb5⟩
          have HB5 : Hid (Below w3.heap.size w3 w5) := hb5
          clear c0 c1 hz hb5 HPR
          as_aux_lemma =>
            go_wp2_with fail
            refine (planFault_any _ (some ⟨P, 0, none⟩) 3 3 l (HRW.out _ HB5.out) (by omega)).mono ?_
            rintro e w9 ⟨rfl, hb9⟩
            have HB9 := Lib.hid (ext_trans HB5.out hb9)
            obtain ⟨c0, c1, hz⟩ := HCW.out w9 HB9.out
            clear hb9 HB5
            by_cases hE : planErr l = 0
            · have HEE := Lib.hid hE
              rw [hE]
              clear hE
              have HDZ := Lib.hid (digits_zero d)
              have HDF := Lib.hid (fun W => digitsFault_any d W (by omega))
              have HDC : Hid (∀ g, digitsB d 1 30 = g → digitsB d 1 30 = g) := fun _ h => h
              generalize hdg : digitsB d 1 30 = g at HDZ HDF
              have HDG := Lib.hid (HDC.out g hdg)
              clear hdg HDC
              -- what the second error is
              obtain ⟨fe, HFE, HFZ, HF3⟩ : ∃ fe : Int, Hid (fe = if (!d.isEmpty && !g) = true then 3 else 0) ∧ Hid (fe = 0 ↔ digitsB d 0 30 = true) ∧ Hid (fe ≠ 0 → fe = 3) := by
                refine ⟨_, rfl, ?_, ?_⟩
                · show _ ↔ _
                  rw [HDZ.out]
                  cases d.isEmpty <;> cases g <;> simp
                · show _ → _
                  cases d.isEmpty <;> cases g <;> simp
              have HHO := Lib.hid (fun W hW => homeFault_any W (some ⟨P, 0, none⟩) 3 3 l hW (by omega) (by omega) HNA.out code area)
              have HHE : Hid (∀ X, homeErr l code area = X → homeErr l code area = X) := fun _ h => h
              generalize hhx : homeErr l code area = he at HHO
              have HHX := Lib.hid (HHE.out he hhx)
              clear hhx HHE
              as_aux_lemma =>
                go_upto_region 7 with (fail)
                go_cut [9] (fun v wx => v = .int .i64 (firstE he fe) ∧ Hid (Below w3.heap.size w3 wx))
                case first =>
                  go_wp2_with fail
                  refine (HHO.out _ (HRW.out _ HB9.out)).mono ?_
                  rintro e w10 ⟨rfl, hb10⟩
                  have HB10 := Lib.hid (ext_trans HB9.out hb10)
                  clear c0 c1 hz hb10 HB9 HHO HHX
                  have HZ : Hid (w3.heap.size ≤ w10.heap.size) := HB10.out.size
                  cases d with
                  | nil =>
                    have HF0 : Hid (fe = 0) := HFE.out
                    as_aux_lemma =>
                      go_wp2_with fail
                      refine (when_any false 3 _).mono ?_
                      rintro e w' ⟨rfl, rfl⟩
                      go_wp2_with fail
                      refine (or_any he 0 w10.heap.size _ (by simp) (by go_simp) (by go_simp)).mono ?_
                      rintro e w' ⟨rfl, rfl⟩
                      go_wp2_with fail
                      go_meet
                      exact ⟨by rw [HF0.out], ext_alloc HB10.out⟩
                  | cons d0 dr =>
                    as_aux_lemma =>
                      go_wp2_with fail
                      refine (HDF.out _).mono ?_
                      rintro e w11 ⟨rfl, hb11⟩
                      have HB11 := Lib.hid (ext_trans HB10.out hb11)
                      clear hb11
                      cases g
                      · have HF0 : Hid (fe = 3) := HFE.out
                        as_aux_lemma =>
                          go_wp2_with fail
                          refine (when_any true 3 _).mono ?_
                          rintro e w' ⟨rfl, rfl⟩
                          go_wp2_with fail
                          refine (or_any he 3 w11.heap.size _ (by simp) (by go_simp) (by go_simp)).mono ?_
                          rintro e w' ⟨rfl, rfl⟩
                          go_wp2_with fail
                          go_meet
                          exact ⟨by rw [HF0.out], ext_alloc HB11.out⟩
                      · have HF0 : Hid (fe = 0) := HFE.out
                        as_aux_lemma =>
                          go_wp2_with fail
                          refine (when_any false 3 _).mono ?_
                          rintro e w' ⟨rfl, rfl⟩
                          go_wp2_with fail
                          refine (or_any he 0 w11.heap.size _ (by simp) (by go_simp) (by go_simp)).mono ?_
                          rintro e w' ⟨rfl, rfl⟩
                          go_wp2_with fail
                          go_meet
                          exact ⟨by rw [HF0.out], ext_alloc HB11.out⟩
                case rest =>
                  obtain ⟨rfl, HBC⟩ := hcut
                  clear c0 c1 hz HB9 HHO HDF HFE HDZ HDG
                  by_cases hhe : he = 0
                  · subst hhe
                    obtain ⟨c, hc, hfc⟩ := home_found HEE.out HHX.out
                    have HIN := Lib.hid (homeIn_of hc)
                    have HF1 : Hid (firstE 0 fe = fe) := rfl
                    rw [HF1.out]
                    by_cases hfe : fe = 0
                    · subst hfe
                      have hdz := HFZ.out.1 rfl
                      obtain ⟨-, d2, d3⟩ := (digitsB_iff _ _ _).1 hdz
                      have HP1 : Hid ((pe, pn) = (0, progN (decide ((reachP l c area d).1 = 0)) (refLonger l c area d))) := by
                        show _ = _
                        rw [HP0.out, if_neg (by simp [HEE.out]), hc, refLonger_same HEE.out HIN.out HAN.out d3 (by omega)]
                        simp only
                        rw [hdz]
                        rfl
                      obtain ⟨rfl, rfl⟩ : pe = 0 ∧ pn = progN (decide ((reachP l c area d).1 = 0)) (refLonger l c area d) := by have := HP1.out; simpa using this
                      have HPF := Lib.hid (fun W hW => progressFrom_any W (some ⟨P, 0, none⟩) 3 3 l hW (by omega) (by omega) HEE.out c code area d hfc har (by omega))
                      clear hdz d2 d3 hc hfc HP0 HP1 HIN HHX HFZ
                      generalize progN (decide ((reachP l c area d).1 = 0)) (refLonger l c area d) = pn at HPF
                      obtain ⟨c0, c1, hz⟩ := HCW.out wc HBC.out
                      as_aux_lemma =>
                        go_wp2_with fail
                        refine (HPF.out _ (HRW.out _ HBC.out)).mono ?_
                        rintro e w13 ⟨rfl, hb13⟩
                        have HB13 := Lib.hid (ext_trans HBC.out hb13)
                        clear hb13 c0 c1 hz HPF
                        as_aux_lemma =>
                          go_wp2_with fail
                          refine (numbered_any _).mono ?_
                          rintro e w14 ⟨rfl, hb14⟩
                          have HF := Lib.hid (HEND.out _ (ext_trans HB13.out hb14))
                          clear hb14
                          go_wp2_with fail
                          go_ret
                          exact ⟨rfl, HF.out⟩
                    · have hf3 : digitsB d 0 30 = false := by
                        cases hq : digitsB d 0 30 with
                        | false => rfl
                        | true => exact absurd (HFZ.out.2 hq) hfe
                      have HP1 : Hid ((pe, pn) = (3, 0)) := by
                        show _ = _
                        rw [HP0.out, if_neg (by simp [HEE.out]), hc]
                        simp only
                        rw [hf3]
                        rfl
                      obtain ⟨rfl, rfl⟩ : pe = 3 ∧ pn = 0 := by have := HP1.out; simpa using this
                      obtain rfl : fe = 3 := HF3.out hfe
                      clear hc hfc HP0 HP1 HIN HHX HFZ hf3 hfe
                      as_aux_lemma =>
                        go_wp2_with fail
                        refine (numbered_any _).mono ?_
                        rintro e w14 ⟨rfl, hb14⟩
                        have HF := Lib.hid (HEND.out _ (ext_trans HBC.out hb14))
                        clear hb14
                        go_wp2_with fail
                        go_ret
                        exact ⟨rfl, HF.out⟩
                  · obtain ⟨hc, h8⟩ := home_not HEE.out (by rw [HHX.out]; exact hhe)
                    obtain rfl : he = 8 := by rw [← HHX.out]; exact h8
                    have HF1 : Hid (firstE 8 fe = 8) := rfl
                    rw [HF1.out]
                    obtain ⟨rfl, rfl⟩ : pe = 8 ∧ pn = 0 := by have := HP0.out; simp [HEE.out, hc] at this; exact this
                    clear hc h8 HP0 HHX HFZ
                    as_aux_lemma =>
                      go_wp2_with fail
                      refine (numbered_any _).mono ?_
                      rintro e w14 ⟨rfl, hb14⟩
                      have HF := Lib.hid (HEND.out _ (ext_trans HBC.out hb14))
                      clear hb14
                      go_wp2_with fail
                      go_ret
                      exact ⟨rfl, HF.out⟩
            · have HP2 := HP0.out
              rw [if_pos hE] at HP2
              generalize planErr l = E at *
              obtain ⟨rfl, rfl⟩ : pe = E ∧ pn = 0 := by simpa using HP2
              clear HP0 HP2
              as_aux_lemma =>
                go_wp2_with fail
                refine (numbered_any _).mono ?_
                rintro e w14 ⟨rfl, hb14⟩
                have HF := Lib.hid (HEND.out _ (ext_trans HB9.out hb14))
                clear hb14
                go_wp2_with fail
                go_ret
                exact ⟨rfl, HF.out⟩
end Go.Proofs.YthajppcmmmkfcaaGreatDoor
