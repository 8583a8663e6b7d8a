/- What is proved here: lemmas and contracts for the statement, put together out of smaller texts (LawSlips). No condition beyond those stated. -/
import Derived.Test.YtbbbaeenngjldaaGreatDoorSmPkD
import Derived.Test.YtbbbaeenngjldaaGreatDoorSmPkE
import Derived.Test.YtbbbaeenngjldaaGreatDoorSmPkG
set_option linter.unusedVariables false
set_option linter.unusedSimpArgs false
namespace Go.Proofs.YtbbbaeenngjldaaGreatDoor
open Go.RowKit

theorem bs_slip7 (e : Operand → Value) (he : ∀ v, e (.const v) = v) (o : Oper) (w : World) (p0 : ByteArray) (p1 : ByteArray) (p2 : ByteArray) (p3 : ByteArray) (p4 : ByteArray) (p5 : ByteArray) (p6 : ByteArray) (ho : o.op = .buildSlice 35 7 #[(0, .const (.string p0)), (1, .const (.string p1)), (2, .const (.string p2)), (3, .const (.string p3)), (4, .const (.string p4)), (5, .const (.string p5)), (6, .const (.string p6))]) :
   (execOp e o).run Tryz.prog w = .ok (.value (.slice (some ⟨w.heap.size, 0, none⟩) 7 7)) (w.alloc (.cells #[.string p0, .string p1, .string p2, .string p3, .string p4, .string p5, .string p6] 9)) := by
  unfold execOp
  rw [ho]
  simp only [List.map_toArray, List.map_cons, List.map_nil, he]
  kernel_rfl
theorem bs_slip6 (e : Operand → Value) (he : ∀ v, e (.const v) = v) (o : Oper) (w : World) (i3 : Nat) (p0 : ByteArray) (p1 : ByteArray) (p2 : ByteArray) (p3 : ByteArray) (p4 : ByteArray) (p5 : ByteArray) (ho : o.op = .buildSlice 35 6 #[(0, .const (.string p0)), (1, .const (.string p1)), (2, .const (.string p2)), (3, .tmp i3), (4, .const (.string p4)), (5, .const (.string p5))]) (h3 : e (.tmp i3) = .string p3):
   (execOp e o).run Tryz.prog w = .ok (.value (.slice (some ⟨w.heap.size, 0, none⟩) 6 6)) (w.alloc (.cells #[.string p0, .string p1, .string p2, .string p3, .string p4, .string p5] 9)) := by
  unfold execOp
  rw [ho]
  simp only [List.map_toArray, List.map_cons, List.map_nil, he, h3]
  kernel_rfl
def sevenA : List (List UInt8) := [[49], [49, 50], [49, 50, 51], [49, 50, 50, 51], [49, 50, 51, 49], [], [120]]
theorem seven_short (k : Nat) : (sevenA.getD k []).length ≤ 4 := by
  match k with
  | 0 | 1 | 2 | 3 | 4 | 5 | 6 => decide
  | k + 7 => simp [sevenA]
theorem six_short (a : List UInt8) (ha : a.length ≤ 4) (k : Nat) : (([[50, 49], [50, 49, 51], [49, 51, 50], a, [49, 50], [50, 49, 50, 51]] : List (List UInt8)).getD k []).length ≤ 60 := by
  match k with
  | 0 | 1 | 2 | 4 | 5 => simp
  | 3 => simp; omega
  | k + 6 => simp
theorem digs_ten {b : List UInt8} (h : digitsB b 1 30 = true) : ∀ x ∈ b, x ∈ tenD := by
  obtain ⟨-, -, hd⟩ := (digitsB_iff b 1 30).1 h
  intro x hx
  rw [mem_ten]
  unfold digs at hd
  have := List.all_eq_true.1 hd x hx
  simpa using this
theorem once_len (zs : List (List UInt8)) : (onceL zs).length ≤ zs.length := by
  unfold onceL Lib.compact Lib.compactUpTo
  rw [List.length_map]
  refine Nat.le_trans (List.length_filter_le _ _) ?_
  simp
theorem slipsTop_len (l : List Ctry) (s : List UInt8) (hs : s.length ≤ 15) : (slipsTop l s).length ≤ 5000 := by
  have h1 := once_len (takeN (okN l) s (tryTo s (s.length + 1)))
  have h2 := takeN_len (okN l) s (tryTo s (s.length + 1))
  have h3 := tryTo_len s (s.length + 1)
  unfold slipsTop
  omega
theorem slipV_same (a b : List UInt8) : slipE a b = firstE (if digitsB a 1 30 = true then 0 else 3) (if digitsB b 1 30 = true then 0 else 3) := by
  unfold slipE firstE
  cases digitsB a 1 30 <;> cases digitsB b 1 30 <;> simp
theorem slipV_right {a b : List UInt8} (h : slipE a b = 0) : slipV a b = (slipR a b : Nat) := by
  unfold slipE at h
  split at h
  · rename_i hd
    unfold slipV
    rw [if_pos hd, slip_same (digs_ten hd.2)]
  · cases h

set_option maxRecDepth 100000 in
set_option maxHeartbeats 4000000 in
theorem slips_true (w : World) (a0 : Option Addr) (len cap : Nat) (zs : List Int) (hr : ArgRow w a0 len cap zs) :
    Calls Tryz.prog 3 #[.slice a0 len cap] w fun e w' => e = .returned (.bool true) ∧ Below w.heap.size w w' := by
  have HS0 := Lib.hid (stream_start hr)
  clear hr
  go_enter Tryz.func3, Tryz.ntmps3
  go_wp2_with fail
  refine (countries_any w.heap.size 0 _ HS0.out (by omega)).mono ?_
  rintro e w1 ⟨P, l, rfl, hrow, hna, hst1, hk1⟩
  have HR := Lib.hid hrow
  have HNA := Lib.hid hna
  have HS1 := Lib.hid hst1
  have HK1 := Lib.hid hk1
  clear hrow hna hst1 hk1 HS0
  as_aux_lemma =>
    go_wp2_with fail
    refine (number_any w.heap.size 20 _ (some ⟨P, 0, none⟩) 3 3 l HS1.out (by omega) HR.out (by omega) (by omega) HNA.out).mono ?_
    rintro e w2 ⟨nm, rfl, hnm, hst2, hk2⟩
    have HK2 := Lib.hid (HK1.out.trans hk2)
    have HR2 : Hid (∀ w9, Keeps w.heap.size w2 w9 → CtryRow w9 (some ⟨P, 0, none⟩) 3 l) := fun w9 h9 => HR.out w9 (hk2.trans h9)
    have HS2 := Lib.hid hst2
    have hnl : nm.length ≤ 1000 := by omega
    clear hst2 hk2 HR HS1 HK1
    as_aux_lemma =>
      go_wp2_with (first | (refine wpList_val rfl (bs_slip7 _ (fun _ => rfl) _ _ _ _ _ _ _ _ _ rfl) ?_))
      have HK3 : Hid (Keeps w.heap.size w2 (w2.alloc (.cells #[.string ⟨#[49]⟩, .string ⟨#[49, 50]⟩, .string ⟨#[49, 50, 51]⟩, .string ⟨#[49, 50, 50, 51]⟩, .string ⟨#[49, 50, 51, 49]⟩, .string ⟨#[]⟩, .string ⟨#[120]⟩] 9))) := (Keeps.refl _ _).alloc _
      have HS3 : Hid (StreamOk (w2.alloc (.cells #[.string ⟨#[49]⟩, .string ⟨#[49, 50]⟩, .string ⟨#[49, 50, 51]⟩, .string ⟨#[49, 50, 50, 51]⟩, .string ⟨#[49, 50, 51, 49]⟩, .string ⟨#[]⟩, .string ⟨#[120]⟩] 9)) w.heap.size 4020) := HS2.out.below (ext_alloc (Below.refl _ _))
      have hzl := HS2.out.lt
      have hzw : (w2.alloc (.cells #[.string ⟨#[49]⟩, .string ⟨#[49, 50]⟩, .string ⟨#[49, 50, 51]⟩, .string ⟨#[49, 50, 50, 51]⟩, .string ⟨#[49, 50, 51, 49]⟩, .string ⟨#[]⟩, .string ⟨#[120]⟩] 9)).heap.size = w2.heap.size + 1 := by simp
      have HC : Hid (∀ i, i < 7 → (w2.alloc (.cells #[.string ⟨#[49]⟩, .string ⟨#[49, 50]⟩, .string ⟨#[49, 50, 51]⟩, .string ⟨#[49, 50, 50, 51]⟩, .string ⟨#[49, 50, 51, 49]⟩, .string ⟨#[]⟩, .string ⟨#[120]⟩] 9)).cell? ⟨w2.heap.size, i, none⟩ = some (.string ⟨(sevenA.getD i []).toArray⟩)) := fun i hi => by match i, hi with | 0, _ => go_simp; rfl | 1, _ => go_simp; rfl | 2, _ => go_simp; rfl | 3, _ => go_simp; rfl | 4, _ => go_simp; rfl | 5, _ => go_simp; rfl | 6, _ => go_simp; rfl
      generalize World.alloc _ (.cells #[.string ⟨#[49]⟩, .string ⟨#[49, 50]⟩, .string ⟨#[49, 50, 51]⟩, .string ⟨#[49, 50, 50, 51]⟩, .string ⟨#[49, 50, 51, 49]⟩, .string ⟨#[]⟩, .string ⟨#[120]⟩] 9) = W3 at HK3 HS3 HC hzw ⊢
      refine (some_any w.heap.size 4020 w2.heap.size 7 7 sevenA (fun s => s.length ≤ 4) _ HS3.out (by omega) (by omega) (by omega) (by omega) (by omega) HC.out (fun i _ => seven_short i)).mono ?_
      rintro e w3 ⟨a, rfl, ha, hst3, hk3⟩
      have HS4 := Lib.hid hst3
      have HK4 := Lib.hid (HK3.out.trans hk3)
      have ha4 : a.length ≤ 4 := ha
      clear hst3 hk3 HK3 HS3 HC hzw ha HS2 hzl
      as_aux_lemma =>
        go_wp2_with fail
        refine (changed_any w.heap.size 4021 _ a [49, 50, 51] HS4.out (by omega) (by omega) (by decide)).mono ?_
        rintro e w4 ⟨b0, rfl, hb0, hst4, hk4⟩
        have HS5 := Lib.hid hst4
        have HK5 := Lib.hid (HK4.out.trans hk4)
        have hb0l : b0.length ≤ 60 := by simp at hb0; omega
        clear hst4 hk4 HS4 HK4 hb0
        as_aux_lemma =>
          go_wp2_with fail
          refine (flip_any w.heap.size (4021 + 3) 3 _ HS5.out (by omega) (by decide) (by decide)).mono ?_
          rintro e w5 ⟨fl, rfl, hst5, hk5⟩
          have HS6 := Lib.hid hst5
          have HK6 := Lib.hid (HK5.out.trans hk5)
          clear hst5 hk5 HS5 HK5
          as_aux_lemma =>
            go_upto_if 28 with (fail)
            go_cut [7] (fun v wx => ∃ b : List UInt8, v = .string ⟨b.toArray⟩ ∧ b.length ≤ 60 ∧ Hid (StreamOk wx w.heap.size 4026) ∧ Hid (Keeps w.heap.size w2 wx))
            case first =>
              cases fl
              · skip
                as_aux_lemma =>
                  go_wp2_with fail
                  go_meet
                  exact ⟨b0, rfl, hb0l, HS6.out.mono (by omega), HK6.out⟩
              · skip
                as_aux_lemma =>
                  go_wp2_with (first | (refine wpList_val rfl (bs_slip6 _ (fun _ => rfl) _ _ _ _ _ _ _ _ _ rfl rfl) ?_))
                  have HK7 : Hid (Keeps w.heap.size w2 (w5.alloc (.cells #[.string ⟨#[50, 49]⟩, .string ⟨#[50, 49, 51]⟩, .string ⟨#[49, 51, 50]⟩, .string ⟨a.toArray⟩, .string ⟨#[49, 50]⟩, .string ⟨#[50, 49, 50, 51]⟩] 9))) := HK6.out.alloc _
                  have HS7 : Hid (StreamOk (w5.alloc (.cells #[.string ⟨#[50, 49]⟩, .string ⟨#[50, 49, 51]⟩, .string ⟨#[49, 51, 50]⟩, .string ⟨a.toArray⟩, .string ⟨#[49, 50]⟩, .string ⟨#[50, 49, 50, 51]⟩] 9)) w.heap.size 4025) := HS6.out.below (ext_alloc (Below.refl _ _))
                  have hzl := HS6.out.lt
                  have hzw : (w5.alloc (.cells #[.string ⟨#[50, 49]⟩, .string ⟨#[50, 49, 51]⟩, .string ⟨#[49, 51, 50]⟩, .string ⟨a.toArray⟩, .string ⟨#[49, 50]⟩, .string ⟨#[50, 49, 50, 51]⟩] 9)).heap.size = w5.heap.size + 1 := by simp
                  have HC : Hid (∀ i, i < 6 → (w5.alloc (.cells #[.string ⟨#[50, 49]⟩, .string ⟨#[50, 49, 51]⟩, .string ⟨#[49, 51, 50]⟩, .string ⟨a.toArray⟩, .string ⟨#[49, 50]⟩, .string ⟨#[50, 49, 50, 51]⟩] 9)).cell? ⟨w5.heap.size, i, none⟩ = some (.string ⟨(([[50, 49], [50, 49, 51], [49, 51, 50], a, [49, 50], [50, 49, 50, 51]] : List (List UInt8)).getD i []).toArray⟩)) := fun i hi => by match i, hi with | 0, _ => go_simp | 1, _ => go_simp | 2, _ => go_simp | 3, _ => go_simp | 4, _ => go_simp | 5, _ => go_simp
                  generalize World.alloc _ (.cells #[.string ⟨#[50, 49]⟩, .string ⟨#[50, 49, 51]⟩, .string ⟨#[49, 51, 50]⟩, .string ⟨a.toArray⟩, .string ⟨#[49, 50]⟩, .string ⟨#[50, 49, 50, 51]⟩] 9) = W7 at HK7 HS7 HC hzw ⊢
                  refine (some_any w.heap.size 4025 w5.heap.size 6 6 [[50, 49], [50, 49, 51], [49, 51, 50], a, [49, 50], [50, 49, 50, 51]] (fun s => s.length ≤ 60) _ HS7.out (by omega) (by omega) (by omega) (by omega) (by omega) HC.out (fun i _ => six_short a ha4 i)).mono ?_
                  rintro e w6 ⟨b1, rfl, hb1, hst6, hk6⟩
                  have HS8 := Lib.hid hst6
                  have HK8 := Lib.hid (HK7.out.trans hk6)
                  have hb1l : b1.length ≤ 60 := hb1
                  clear hst6 hk6 HS7 HK7 HC hzw hb1 HS6 HK6 hzl
                  go_wp2_with fail
                  go_meet
                  exact ⟨b1, rfl, hb1l, HS8.out, HK8.out⟩
            case rest =>
              obtain ⟨b, rfl, hbl, HSR, HKR⟩ := hcut
              clear HS6 HK6 hb0l
              have HRW : Hid (∀ w9, Below wc.heap.size wc w9 → CtryRow w9 (some ⟨P, 0, none⟩) 3 l) := fun w9 h9 => HR2.out w9 (HKR.out.trans (Keeps.of_below h9))
              have HEND : Hid (∀ w9, Below wc.heap.size wc w9 → Below w.heap.size w w9) := fun w9 h9 => law_end (HK2.out.trans (HKR.out.trans (Keeps.of_below h9)))
              clear HSR HKR HK2 HR2
              have HSE := Lib.hid (slipV_same a b)
              have HSR0 := Lib.hid (@slipV_right a b)
              have HSL := Lib.hid (fun W => slip_any a b (by omega) (by omega) W)
              have HSO := Lib.hid (fun W => slipOf_any a b (by omega) W)
              have HDA := Lib.hid (fun W => digitsFault_any a W (by omega))
              have HDB := Lib.hid (fun W => digitsFault_any b W (by omega))
              generalize (if digitsB a 1 30 = true then (0 : Int) else 3) = fa at HSE HDA
              generalize (if digitsB b 1 30 = true then (0 : Int) else 3) = fb at HSE HDB
              generalize slipE a b = ee at HSE HSR0 HSL
              generalize slipV a b = vv at HSR0 HSL
              as_aux_lemma =>
                go_wp2_with fail
                refine (HSL.out _).mono ?_
                rintro e w6 ⟨rfl, hb6⟩
                have HB6 := Lib.hid hb6
                clear hb6
                as_aux_lemma =>
                  go_wp2_with fail
                  refine (slips_any _ (some ⟨P, 0, none⟩) 3 3 l (HRW.out _ HB6.out) (by omega) (by omega) HNA.out nm hnl).mono ?_
                  rintro e w7 ⟨v7, ys, rfl, ho7, hb7, hs7⟩
                  have HB7 := Lib.hid (ext_trans HB6.out hb7)
                  have HO7 := Lib.hid ho7
                  have HS7 := Lib.hid hs7
                  have HST : Hid (splitTop l nm = if planErr l = 0 then splitP l nm else noSpl (planErr l)) := rfl
                  generalize hxt : (splitTop l nm).err = et at HS7 ⊢
                  have HET : Hid ((splitTop l nm).err = et) := hxt
                  clear ho7 hb7 hs7 hxt
                  as_aux_lemma =>
                    go_wp2_with fail
                    refine (HDA.out _).mono ?_
                    rintro e w8 ⟨rfl, hb8⟩
                    have HB8 := Lib.hid (ext_trans HB7.out hb8)
                    have HO8 := Lib.hid (own_keep HO7.out hb8)
                    clear hb8
                    as_aux_lemma =>
                      go_wp2_with fail
                      refine (HDB.out _).mono ?_
                      rintro e w9 ⟨rfl, hb9⟩
                      have HB9 := Lib.hid (ext_trans HB8.out hb9)
                      have HO9 := Lib.hid (own_keep HO8.out hb9)
                      clear hb9
                      as_aux_lemma =>
                        go_wp2_with fail
                        refine (or_any fa fb w9.heap.size _ (by simp) (by go_simp) (by go_simp)).mono ?_
                        rintro e w10 ⟨rfl, rfl⟩
                        rw [← HSE.out]
                        have HB10 := Lib.hid (ext_alloc HB9.out (o := .cells #[.int .i64 fa, .int .i64 fb] 32))
                        have HO10 := Lib.hid (HO9.out.alloc (.cells #[.int .i64 fa, .int .i64 fb] 32))
                        generalize World.alloc w9 _ = w10 at HB10 HO10 ⊢
                        clear HB6 HB7 HB8 HB9 HO7 HO8 HO9 HSL HDA HDB
                        by_cases hee : ee = 0
                        · have HVV := Lib.hid (HSR0.out hee)
                          subst hee
                          clear HSR0 HSE
                          as_aux_lemma =>
                            go_wp2_with fail
                            refine (HSO.out _).mono ?_
                            rintro e w11 ⟨rfl, hb11⟩
                            rw [← HVV.out]
                            have HB11 := Lib.hid (ext_trans HB10.out hb11)
                            have HO11 := Lib.hid (own_keep HO10.out hb11)
                            clear hb11 HB10 HO10 HVV
                            as_aux_lemma =>
                              go_wp2_with fail
                              refine (planFault_any _ (some ⟨P, 0, none⟩) 3 3 l (HRW.out _ HB11.out) (by omega)).mono ?_
                              rintro e w12 ⟨rfl, hb12⟩
                              have HB12 := Lib.hid (ext_trans HB11.out hb12)
                              have HO12 := Lib.hid (own_keep HO11.out hb12)
                              clear hb12 HB11 HO11
                              obtain ⟨a3, c3, rfl⟩ := own_shape HO12.out
                              by_cases hE : planErr l = 0
                              · have HSP := Lib.hid (fun w9 (h9 : CtryRow w9 (some ⟨P, 0, none⟩) 3 l) => splitOf_any w9 (some ⟨P, 0, none⟩) 3 3 l h9 (by omega) nm hnl)
                                have hX : (splitR l nm).err = et := by
                                  rw [split_same nm hE]
                                  have h1 := HST.out
                                  rw [if_pos hE] at h1
                                  rw [← h1]
                                  exact HET.out
                                have HSR := Lib.hid (fun w9 (h9 : CtryRow w9 (some ⟨P, 0, none⟩) 3 l) (s : List UInt8) (hs : s.length ≤ 80) => slipsOf_ref w9 (some ⟨P, 0, none⟩) 3 3 l h9 (by omega) hE s hs)
                                clear HST HET
                                generalize splitR l nm = X at HSP hX
                                obtain ⟨er, co, ar, re⟩ := X
                                simp only at hX
                                subst hX
                                generalize planErr l = E at *
                                subst hE
                                as_aux_lemma =>
                                  go_wp2_with fail
                                  refine (HSP.out _ (HRW.out _ HB12.out)).mono ?_
                                  rintro e w13 ⟨rfl, hb13⟩
                                  have HB13 : Hid (Below wc.heap.size wc w13) := ext_trans HB12.out hb13
                                  have HO13 := Lib.hid (own_keep HO12.out hb13)
                                  clear hb13 HB12 HO12 HSP
                                  simp only
                                  by_cases het : er = 0
                                  · have HS7b : Hid (∃ s, nm = 43 :: s ∧ s.length ≤ 15 ∧ ys = slipsTop l s) := by
                                      rcases HS7.out with ⟨h1, -⟩ | ⟨-, h1⟩
                                      · exact absurd het h1
                                      · exact h1
                                    clear HS7
                                    obtain ⟨s, hnm, hsl, hys⟩ := HS7b.out
                                    have HYS : Hid (ys = onceL (takeN (okN l) s (allKinds s))) := hys.trans (take_once (okN l) s)
                                    have HYL : Hid (ys.length ≤ 5000) := by
                                      show _ ≤ _
                                      rw [hys]
                                      exact slipsTop_len l s hsl
                                    have HSR2 := Lib.hid (fun w9 h9 => HSR.out w9 h9 s (by omega))
                                    rw [← hnm] at HSR2
                                    clear hys hnm HS7b HSR
                                    subst het
                                    as_aux_lemma =>
                                      go_wp2_with fail
                                      refine (HSR2.out _ (HRW.out _ HB13.out)).mono ?_
                                      rintro e w14 ⟨v14, rfl, ho14, hb14⟩
                                      have HB14 := Lib.hid (ext_trans HB13.out hb14)
                                      have HO14 := Lib.hid (own_keep HO13.out hb14)
                                      have HO15 := Lib.hid ho14
                                      have hyl := HYL.out
                                      generalize hny : ys.length = ny at HO14 hyl ⊢
                                      have HNY := Lib.hid hny
                                      clear ho14 hb14 hny HO13 HB13
                                      as_aux_lemma =>
                                        go_wp2_with fail
                                        refine (equal_words (n := ny) HO14.out HO15.out HYS.out (by omega)).mono ?_
                                        rintro e w16 ⟨rfl, hb16⟩
                                        have HB16 := Lib.hid (ext_trans HB14.out hb16)
                                        clear hb16
                                        as_aux_lemma =>
                                          go_wp2_with fail
                                          refine (numbered_any _).mono ?_
                                          rintro e w17 ⟨rfl, hb17⟩
                                          have HFIN := Lib.hid (HEND.out _ (ext_trans HB16.out hb17))
                                          clear hb17
                                          go_wp2_with fail
                                          go_ret
                                          exact ⟨rfl, HFIN.out⟩
                                  · obtain rfl : ys = [] := by
                                      rcases HS7.out with ⟨-, h1⟩ | ⟨h1, -⟩
                                      · exact h1
                                      · exact absurd h1 het
                                    have hx0 : ([] : List (List UInt8)).length = 0 := rfl
                                    clear HS7 HSR
                                    as_aux_lemma =>
                                      go_wp2_with fail
                                      refine (numbered_any _).mono ?_
                                      rintro e w17 ⟨rfl, hb17⟩
                                      have HFIN := Lib.hid (HEND.out _ (ext_trans HB13.out hb17))
                                      clear hb17
                                      go_wp2_with fail
                                      go_ret
                                      exact ⟨rfl, HFIN.out⟩
                              · have hX : et = planErr l := by
                                  have h1 := HST.out
                                  rw [if_neg hE] at h1
                                  rw [← HET.out, h1]
                                  rfl
                                clear HST HET
                                generalize planErr l = E at *
                                subst hX
                                obtain rfl : ys = [] := by
                                  rcases HS7.out with ⟨-, h1⟩ | ⟨h1, -⟩
                                  · exact h1
                                  · exact absurd h1 hE
                                have hx0 : ([] : List (List UInt8)).length = 0 := rfl
                                clear HS7
                                as_aux_lemma =>
                                  go_wp2_with fail
                                  refine (numbered_any _).mono ?_
                                  rintro e w17 ⟨rfl, hb17⟩
                                  have HFIN := Lib.hid (HEND.out _ (ext_trans HB12.out hb17))
                                  clear hb17
                                  go_wp2_with fail
                                  go_ret
                                  exact ⟨rfl, HFIN.out⟩
                        · clear HSR0 HSE HSO
                          as_aux_lemma =>
                            go_wp2_with fail
                            refine (planFault_any _ (some ⟨P, 0, none⟩) 3 3 l (HRW.out _ HB10.out) (by omega)).mono ?_
                            rintro e w12 ⟨rfl, hb12⟩
                            have HB12 := Lib.hid (ext_trans HB10.out hb12)
                            have HO12 := Lib.hid (own_keep HO10.out hb12)
                            clear hb12 HB10 HO10
                            obtain ⟨a3, c3, rfl⟩ := own_shape HO12.out
                            by_cases hE : planErr l = 0
                            · have HSP := Lib.hid (fun w9 (h9 : CtryRow w9 (some ⟨P, 0, none⟩) 3 l) => splitOf_any w9 (some ⟨P, 0, none⟩) 3 3 l h9 (by omega) nm hnl)
                              have hX : (splitR l nm).err = et := by
                                rw [split_same nm hE]
                                have h1 := HST.out
                                rw [if_pos hE] at h1
                                rw [← h1]
                                exact HET.out
                              have HSR := Lib.hid (fun w9 (h9 : CtryRow w9 (some ⟨P, 0, none⟩) 3 l) (s : List UInt8) (hs : s.length ≤ 80) => slipsOf_ref w9 (some ⟨P, 0, none⟩) 3 3 l h9 (by omega) hE s hs)
                              clear HST HET
                              generalize splitR l nm = X at HSP hX
                              obtain ⟨er, co, ar, re⟩ := X
                              simp only at hX
                              subst hX
                              generalize planErr l = E at *
                              subst hE
                              as_aux_lemma =>
                                go_wp2_with fail
                                refine (HSP.out _ (HRW.out _ HB12.out)).mono ?_
                                rintro e w13 ⟨rfl, hb13⟩
                                have HB13 : Hid (Below wc.heap.size wc w13) := ext_trans HB12.out hb13
                                have HO13 := Lib.hid (own_keep HO12.out hb13)
                                clear hb13 HB12 HO12 HSP
                                simp only
                                by_cases het : er = 0
                                · have HS7b : Hid (∃ s, nm = 43 :: s ∧ s.length ≤ 15 ∧ ys = slipsTop l s) := by
                                    rcases HS7.out with ⟨h1, -⟩ | ⟨-, h1⟩
                                    · exact absurd het h1
                                    · exact h1
                                  clear HS7
                                  obtain ⟨s, hnm, hsl, hys⟩ := HS7b.out
                                  have HYS : Hid (ys = onceL (takeN (okN l) s (allKinds s))) := hys.trans (take_once (okN l) s)
                                  have HYL : Hid (ys.length ≤ 5000) := by
                                    show _ ≤ _
                                    rw [hys]
                                    exact slipsTop_len l s hsl
                                  have HSR2 := Lib.hid (fun w9 h9 => HSR.out w9 h9 s (by omega))
                                  rw [← hnm] at HSR2
                                  clear hys hnm HS7b HSR
                                  subst het
                                  as_aux_lemma =>
                                    go_wp2_with fail
                                    refine (HSR2.out _ (HRW.out _ HB13.out)).mono ?_
                                    rintro e w14 ⟨v14, rfl, ho14, hb14⟩
                                    have HB14 := Lib.hid (ext_trans HB13.out hb14)
                                    have HO14 := Lib.hid (own_keep HO13.out hb14)
                                    have HO15 := Lib.hid ho14
                                    have hyl := HYL.out
                                    generalize hny : ys.length = ny at HO14 hyl ⊢
                                    have HNY := Lib.hid hny
                                    clear ho14 hb14 hny HO13 HB13
                                    as_aux_lemma =>
                                      go_wp2_with fail
                                      refine (equal_words (n := ny) HO14.out HO15.out HYS.out (by omega)).mono ?_
                                      rintro e w16 ⟨rfl, hb16⟩
                                      have HB16 := Lib.hid (ext_trans HB14.out hb16)
                                      clear hb16
                                      as_aux_lemma =>
                                        go_wp2_with fail
                                        refine (numbered_any _).mono ?_
                                        rintro e w17 ⟨rfl, hb17⟩
                                        have HFIN := Lib.hid (HEND.out _ (ext_trans HB16.out hb17))
                                        clear hb17
                                        go_wp2_with fail
                                        go_ret
                                        exact ⟨rfl, HFIN.out⟩
                                · obtain rfl : ys = [] := by
                                    rcases HS7.out with ⟨-, h1⟩ | ⟨h1, -⟩
                                    · exact h1
                                    · exact absurd h1 het
                                  have hx0 : ([] : List (List UInt8)).length = 0 := rfl
                                  clear HS7 HSR
                                  as_aux_lemma =>
                                    go_wp2_with fail
                                    refine (numbered_any _).mono ?_
                                    rintro e w17 ⟨rfl, hb17⟩
                                    have HFIN := Lib.hid (HEND.out _ (ext_trans HB13.out hb17))
                                    clear hb17
                                    go_wp2_with fail
                                    go_ret
                                    exact ⟨rfl, HFIN.out⟩
                            · have hX : et = planErr l := by
                                have h1 := HST.out
                                rw [if_neg hE] at h1
                                rw [← HET.out, h1]
                                rfl
                              clear HST HET
                              generalize planErr l = E at *
                              subst hX
                              obtain rfl : ys = [] := by
                                rcases HS7.out with ⟨-, h1⟩ | ⟨h1, -⟩
                                · exact h1
                                · exact absurd h1 hE
                              have hx0 : ([] : List (List UInt8)).length = 0 := rfl
                              clear HS7
                              as_aux_lemma =>
                                go_wp2_with fail
                                refine (numbered_any _).mono ?_
                                rintro e w17 ⟨rfl, hb17⟩
                                have HFIN := Lib.hid (HEND.out _ (ext_trans HB12.out hb17))
                                clear hb17
                                go_wp2_with fail
                                go_ret
                                exact ⟨rfl, HFIN.out⟩
end Go.Proofs.YtbbbaeenngjldaaGreatDoor
