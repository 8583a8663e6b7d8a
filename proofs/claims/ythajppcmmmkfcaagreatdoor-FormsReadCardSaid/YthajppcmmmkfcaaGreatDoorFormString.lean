/- What is proved here: strings that a stream hands out for forms have a bounded length. Condition: the stream, the plan and the home lie in memory as stated. -/
import Derived.Test.YthajppcmmmkfcaaGreatDoorRightNum
import Derived.Test.YthajppcmmmkfcaaGreatDoorChanged
import Derived.Test.YthajppcmmmkfcaaGreatDoorFormRef
import Derived.Test.YthajppcmmmkfcaaGreatDoorHomeFlt
import Derived.Test.YthajppcmmmkfcaaGreatDoorPlanFault
import Derived.Test.YthajppcmmmkfcaaGreatDoorHomeDraw
import Derived.Test.YthajppcmmmkfcaaGreatDoorShelfRep
set_option linter.unusedVariables false
set_option linter.unusedSimpArgs false
namespace Go.Proofs.YthajppcmmmkfcaaGreatDoor
open Go.RowKit

theorem bs_form14 (e : Operand → Value) (he : ∀ v, e (.const v) = v) (o : Oper) (w : World) (i10 : Nat) (i11 : Nat) (p0 : ByteArray) (p1 : ByteArray) (p2 : ByteArray) (p3 : ByteArray) (p4 : ByteArray) (p5 : ByteArray) (p6 : ByteArray) (p7 : ByteArray) (p8 : ByteArray) (p9 : ByteArray) (p10 : ByteArray) (p11 : ByteArray) (p12 : ByteArray) (p13 : ByteArray) (ho : o.op = .buildSlice 46 14 #[(0, .const (.string p0)), (1, .const (.string p1)), (2, .const (.string p2)), (3, .const (.string p3)), (4, .const (.string p4)), (5, .const (.string p5)), (6, .const (.string p6)), (7, .const (.string p7)), (8, .const (.string p8)), (9, .const (.string p9)), (10, .tmp i10), (11, .tmp i11), (12, .const (.string p12)), (13, .const (.string p13))]) (h10 : e (.tmp i10) = .string p10) (h11 : e (.tmp i11) = .string p11) :
   (execOp e o).run Tryz.prog w = .ok (.value (.slice (some ⟨w.heap.size, 0, none⟩) 14 14)) (w.alloc (.cells #[.string p0, .string p1, .string p2, .string p3, .string p4, .string p5, .string p6, .string p7, .string p8, .string p9, .string p10, .string p11, .string p12, .string p13] 9)) := by
  unfold execOp
  rw [ho]
  simp only [List.map_toArray, List.map_cons, List.map_nil, he, h10, h11]
  kernel_rfl
theorem form_len {w : World} {a : Option Addr} {n : Nat} {l : List Ctry} (hr : CtryRow w a n l) {p : Ctry → Bool} {c : Ctry} (h : l.find? p = some c) (s : List UInt8) (hs : s.length ≤ 300) : (formP c (splitP l s)).length ≤ 900 := by
  obtain ⟨g1, g2, g3⟩ := ctry_len hr h
  obtain ⟨z1, z2, z3⟩ := spl_len hr s
  have := groups_len _ (splitP l s).rest (Nat.le_refl _)
  unfold formP formPre
  split <;> simp only [List.length_append, List.length_cons, List.length_nil] <;> omega

theorem home_find {l : List Ctry} {code area : List UInt8} (h : homeErr l code area = 0) : ∃ c, (l.find? fun c => c.code == code) = some c := by
  unfold homeErr homeR at h
  cases hf : l.find? fun c => c.code == code with
  | none => rw [hf] at h; cases h
  | some c => exact ⟨c, rfl⟩

set_option maxRecDepth 100000 in
set_option maxHeartbeats 4000000 in
theorem formString_any (S k : Nat) (w : World) (a : Option Addr) (n cap : Nat) (l : List Ctry) (code area : List UInt8) (h : StreamOk w S k) (hk : k ≤ 1000000) (hrow : ∀ w9, Keeps S w w9 → CtryRow w9 a n l) (hcap : n ≤ cap) (h1 : 1 ≤ n) (hna : ∀ i, i < l.length → 1 ≤ (l.getD i noCtry).an) (hco : code.length ≤ 100) (har : area.length ≤ 100) :
    Calls Tryz.prog 26 #[.pointer (some ⟨S, 0, none⟩), .slice a n cap, .agg #[.string ⟨code.toArray⟩, .string ⟨area.toArray⟩]] w (SomePost S (k + 5000) (fun s => s.length ≤ 1000) w) := by
  have HS := Lib.hid h
  have HR := Lib.hid hrow
  have HNA := Lib.hid hna
  have hlt := h.lt
  clear h hrow hna
  have HTWO : ∀ (w1 : World) (K : Act → World → Prop), True := fun _ _ => trivial
  clear HTWO
  go_enter Tryz.func26, Tryz.ntmps26
  go_upto_region 1 with (fail)
  have HKB : Hid (Keeps S w (w.alloc (.cells #[.string ⟨code.toArray⟩, .string ⟨area.toArray⟩] 29))) := (Keeps.refl S w).alloc _
  have HSB : Hid (StreamOk (w.alloc (.cells #[.string ⟨code.toArray⟩, .string ⟨area.toArray⟩] 29)) S k) := HS.out.below (ext_alloc (Below.refl _ _))
  have HC0 : Hid (∀ w9, Keeps S (w.alloc (.cells #[.string ⟨code.toArray⟩, .string ⟨area.toArray⟩] 29)) w9 → w9.cell? ⟨w.heap.size, 0, none⟩ = some (.string ⟨code.toArray⟩) ∧ w9.cell? ⟨w.heap.size, 1, none⟩ = some (.string ⟨area.toArray⟩) ∧ w.heap.size < w9.heap.size) := fun w9 h9 => ⟨(h9.cell (p := ⟨w.heap.size, 0, none⟩) (by simp) (by show w.heap.size ≠ S; omega)).trans (by go_simp), (h9.cell (p := ⟨w.heap.size, 1, none⟩) (by simp) (by show w.heap.size ≠ S; omega)).trans (by go_simp), by have := h9.size; simp at this; omega⟩
  generalize World.alloc w _ = W0 at HKB HSB HC0 ⊢
  obtain ⟨c0, c1, hz0⟩ := HC0.out W0 (Keeps.refl _ _)
  go_cut [20] (fun v wx => ∃ b : Bool, v = .bool b ∧ Hid (b = false → planErr l = 0 ∧ homeErr l code area = 0) ∧ Hid (StreamOk wx S (k + 1)) ∧ Hid (Keeps S W0 wx))
  case first =>
    go_wp2_with fail
    refine (flip_any S k 3 _ HSB.out (by omega) (by decide) (by decide)).mono ?_
    rintro e w1 ⟨fl, rfl, hst1, hk1⟩
    have HK1 := Lib.hid hk1
    have HS1 := Lib.hid hst1
    clear hst1 hk1 c0 c1 hz0
    cases fl
    · skip
      as_aux_lemma =>
        go_wp2_with fail
        refine (planFault_any _ a n cap l (HR.out _ (HKB.out.trans HK1.out)) hcap).mono ?_
        rintro e w2 ⟨rfl, hb2⟩
        have HK2 := Lib.hid (HK1.out.trans (Keeps.of_below hb2))
        have HS2 := Lib.hid (HS1.out.below hb2)
        clear hb2
        have HEQ : Hid (∀ E, planErr l = E → planErr l = E) := fun E h => h
        generalize hE : planErr l = E
        have HEE := Lib.hid (HEQ.out E hE)
        clear hE HEQ
        by_cases he : E = 0
        · subst he
          obtain ⟨c0, c1, hz0⟩ := HC0.out w2 HK2.out
          as_aux_lemma =>
            go_wp2_with fail
            refine (homeFault_any _ a n cap l (HR.out _ (HKB.out.trans HK2.out)) hcap h1 HNA.out code area).mono ?_
            rintro e w3 ⟨rfl, hb3⟩
            have HK3 := Lib.hid (HK2.out.trans (Keeps.of_below hb3))
            have HS3 := Lib.hid (HS2.out.below hb3)
            clear hb3
            have HEQ : Hid (∀ E, homeErr l code area = E → homeErr l code area = E) := fun E h => h
            generalize hE : homeErr l code area = E
            have HHE := Lib.hid (HEQ.out E hE)
            clear hE HEQ
            by_cases he : E = 0
            · subst he
              go_wp2_with fail
              go_meet
              exact ⟨false, rfl, fun _ => ⟨HEE.out, HHE.out⟩, HS3, HK3⟩
            · have hne : (E == 0) = false := by simpa using he
              go_wp2_with fail
              go_meet
              exact ⟨true, by rw [show (E != 0) = true by simpa using he], (fun h => by cases h), HS3, HK3⟩
        · have hne : (E == 0) = false := by simpa using he
          as_aux_lemma =>
            go_wp2_with fail
            go_meet
            exact ⟨true, rfl, (fun h => by cases h), HS2, HK2⟩
    · skip
      as_aux_lemma =>
        go_wp2_with fail
        go_meet
        exact ⟨true, rfl, (fun h => by cases h), HS1, HK1⟩
  case rest =>
    obtain ⟨b, rfl, HB, HS1, HK1⟩ := hcut
    clear c0 c1 hz0
    cases b
    · skip
      obtain ⟨hE, hH⟩ := HB.out rfl
      obtain ⟨c, hfc⟩ := home_find hH
      have HFC := Lib.hid hfc
      have HEE := Lib.hid hE
      have hz := HC0.out
      have hS0 : (fun W => W.cell? ⟨w.heap.size, 0, none⟩ = some (.string ⟨code.toArray⟩) ∧ W.cell? ⟨w.heap.size, 1, none⟩ = some (.string ⟨area.toArray⟩) ∧ w.heap.size < W.heap.size) wc.drew := HC0.out _ (HK1.out.trans (Keeps.of_below (ext_drew (Below.refl _ _))))
      have HS0 := Lib.hid hS0
      have HKD : Hid (Keeps S W0 wc.drew) := HK1.out.trans (Keeps.of_below (ext_drew (Below.refl _ _)))
      have HSD : Hid (StreamOk wc.drew S (k + 1)) := HS1.out.below (ext_drew (Below.refl _ _))
      clear hE hH hfc hz hS0 HB HS1 HK1
      skip
      as_aux_lemma =>
        go_upto_region 3 with (fail)
        refine region_seqI (S := fun W => W.cell? ⟨w.heap.size, 0, none⟩ = some (.string ⟨code.toArray⟩) ∧ W.cell? ⟨w.heap.size, 1, none⟩ = some (.string ⟨area.toArray⟩) ∧ w.heap.size < W.heap.size) [(true, 0), (true, 1), (true, 2), (true, 3), (false, 4), (false, 5), (true, 6)] (by kernel_rfl) (by kernel_rfl) rfl (by kernel_rfl) HS0.out ?_
        simp only [seqOps, List.getD_cons_zero, List.getD_cons_succ]
        refine seqI_take (v := .slice a n cap) rfl (fun W hW => by obtain ⟨m0, m1, m2⟩ := hW; go_simp) (fun _ _ _ h => h) ?_
        simp only [Act.put, List.setIfInBounds_toArray, List.set_cons_zero, List.set_cons_succ]
        refine seqI_take (v := .agg #[.string ⟨code.toArray⟩, .string ⟨area.toArray⟩]) rfl (fun W hW => by obtain ⟨m0, m1, m2⟩ := hW; go_simp) (fun _ _ _ h => h) ?_
        simp only [Act.put, List.setIfInBounds_toArray, List.set_cons_zero, List.set_cons_succ]
        refine seqI_take (v := .pointer (some ⟨S, 0, none⟩)) rfl (fun W hW => by obtain ⟨m0, m1, m2⟩ := hW; go_simp) (fun _ _ _ h => h) ?_
        simp only [Act.put, List.setIfInBounds_toArray, List.set_cons_zero, List.set_cons_succ]
        refine seqI_take (v := .slice a n cap) rfl (fun W hW => by obtain ⟨m0, m1, m2⟩ := hW; go_simp) (fun _ _ _ h => h) ?_
        simp only [Act.put, List.setIfInBounds_toArray, List.set_cons_zero, List.set_cons_succ]
        refine seqI_call 44 #[.pointer (some ⟨S, 0, none⟩), .slice a n cap] rfl (by go_simp) (rightNumber_any S (k + 1) _ a n cap l HSD.out (by omega) (fun w9 h9 => HR.out w9 (HKB.out.trans (HKD.out.trans h9))) hcap h1 HNA.out HEE.out) ?_
        rintro e w9 ⟨s, rfl, ⟨_, hs⟩, hst9, hk9⟩
        refine ⟨_, rfl, HC0.out _ (HKD.out.trans hk9), ?_⟩
        have HS9 := Lib.hid hst9
        have HK9 := Lib.hid (HKD.out.trans hk9)
        clear hst9 hk9
        simp only [Act.put, List.setIfInBounds_toArray, List.set_cons_zero, List.set_cons_succ]
        refine seqI_call 32 #[.slice a n cap, .agg #[.string ⟨code.toArray⟩, .string ⟨area.toArray⟩], .string ⟨s.toArray⟩] rfl (by go_simp) (formFrom_any w9 a n cap l (HR.out _ (HKB.out.trans HK9.out)) hcap h1 HEE.out c code area s HFC.out (by omega)) ?_
        rintro e w10 ⟨rfl, hb10⟩
        have HK10 := Lib.hid (HK9.out.trans (Keeps.of_below hb10))
        have HS10 := Lib.hid (HS9.out.below hb10)
        have hfl := form_len (HR.out _ (HKB.out.trans HK9.out)) HFC.out s hs
        refine ⟨_, rfl, HC0.out _ HK10.out, ?_⟩
        clear hb10
        generalize formP c (splitP l s) = t at hfl
        simp only [Act.put, List.setIfInBounds_toArray, List.set_cons_zero, List.set_cons_succ]
        refine seqI_take (v := .string ⟨t.toArray⟩) rfl (fun W hW => by obtain ⟨m0, m1, m2⟩ := hW; go_simp) (fun _ _ _ h => h) ?_
        simp only [Act.put, List.setIfInBounds_toArray, List.set_cons_zero, List.set_cons_succ]
        refine seqI_nil ?_
        clear HS0 HSD HKD HS9 HK9
        go_wp2_with fail
        refine (pick_any S (k + 1 + 4000) w10.heap.size 3 3 [0, 0, 1] (fun x => 0 ≤ x ∧ x ≤ 1) _ (HS10.out.below (ext_alloc (Below.refl _ _))) (by omega) (by simp) (by have := HS10.out.lt; omega) (by omega) (by omega) (fun i hi => by match i, hi with | 0, _ | 1, _ | 2, _ => go_simp) (fun i hi => by match i, hi with | 0, _ | 1, _ | 2, _ => decide)).mono ?_
        rintro e w11 ⟨r, rfl, ⟨r0, r1⟩, hst11, hk11⟩
        have HK11 := Lib.hid ((HK10.out.alloc _).trans hk11)
        have HS11 := Lib.hid hst11
        clear hst11 hk11
        obtain ⟨r, rfl⟩ := Int.eq_ofNat_of_zero_le r0
        clear r0
        go_wp2_with fail
        go_loopw [7, 35] (fun v i wr => ∃ (j : Nat) (x : List UInt8), j ≤ r ∧ x.length ≤ 900 + 13 * j ∧ v = .string ⟨x.toArray⟩ ∧ i = .int .i64 j ∧ Hid (StreamOk wr S (k + 4002 + 3 * j)) ∧ Hid (Keeps S W0 wr)) (fun _ i _ => r - (intOf i).toNat)
        case atStart => exact ⟨0, t, Nat.zero_le _, by omega, rfl, rfl, HS11.out.mono (by omega), HK11⟩
        case round =>
          obtain ⟨j, x, hj, hx, rfl, rfl, HSr, HKr⟩ := hrel
          by_cases hlt : j < r
          · have hjr : (j : Int) < (r : Int) := by omega
            go_wp2_with fail
            refine (changed_any S (k + 4002 + 3 * j) wr x [48, 45, 46, 32, 40, 41, 43, 97, 90] HSr.out (by omega) (by omega) (by decide)).mono ?_
            rintro e w12 ⟨y, rfl, hy, hst12, hk12⟩
            have HK12 := Lib.hid (HKr.out.trans hk12)
            have HS12 := Lib.hid hst12
            have hy2 : y.length ≤ 900 + 13 * (j + 1) := by simp only [List.length_cons, List.length_nil] at hy; omega
            clear hst12 hk12 hy
            go_wp2_with fail
            go_roundw
            case rel => exact ⟨j + 1, y, by omega, hy2, rfl, by go_num, HS12.out.mono (by omega), HK12⟩
            case measure => simp [intOf]; omega
          · have hjr : ¬ ((j : Int) < (r : Int)) := by omega
            have hxl : x.length ≤ 1000 := by omega
            have HXL := Lib.hid hxl
            have HSF := Lib.hid (HSr.out.mono (show k + 4002 + 3 * j ≤ k + 5000 by omega))
            clear hxl
            go_wp2_with fail
            go_ret
            exact ⟨x, rfl, HXL.out, HSF.out, HKB.out.trans HKr.out⟩
    · skip
      as_aux_lemma =>
        go_wp2_with (first | (refine wpList_val rfl (bs_form14 _ (fun _ => rfl) _ _ _ _ _ _ _ _ _ _ _ _ _ _ _ _ _ _ rfl rfl rfl) ?_))
        refine (Tryz.strings_Repeat ⟨#[49]⟩ 60 _ (by decide) (by decide)).mono ?_
        rintro e w2 ⟨rfl, hb2⟩
        have hra : (Lib.repeatL (⟨#[49]⟩ : ByteArray).data.toList 60).length ≤ 100 := by rw [Lib.repeatL_length]; decide
        generalize Lib.repeatL (⟨#[49]⟩ : ByteArray).data.toList 60 = ra at hra
        have HK2 := Lib.hid (HK1.out.trans (Keeps.of_below hb2))
        have HS2 := Lib.hid (HS1.out.below hb2)
        clear hb2 HB
        as_aux_lemma =>
          go_wp2_with (first | (refine wpList_val rfl (bs_form14 _ (fun _ => rfl) _ _ _ _ _ _ _ _ _ _ _ _ _ _ _ _ _ _ rfl rfl rfl) ?_))
          refine (Tryz.strings_Repeat ⟨#[49]⟩ 61 _ (by decide) (by decide)).mono ?_
          rintro e w3 ⟨rfl, hb3⟩
          have hrb : (Lib.repeatL (⟨#[49]⟩ : ByteArray).data.toList 61).length ≤ 100 := by rw [Lib.repeatL_length]; decide
          generalize Lib.repeatL (⟨#[49]⟩ : ByteArray).data.toList 61 = rb at hrb
          have HK3 := Lib.hid (HK2.out.trans (Keeps.of_below hb3))
          have HS3 := Lib.hid (HS2.out.below hb3)
          clear hb3 HK2 HS2
          as_aux_lemma =>
            go_wp2_with (first | (refine wpList_val rfl (bs_form14 _ (fun _ => rfl) _ _ _ _ _ _ _ _ _ _ _ _ _ _ _ _ _ _ rfl rfl rfl) ?_))
            refine (some_any S (k + 1) w3.heap.size 14 14 [[], [43], [40, 48, 51, 48, 41, 32, 49, 50, 45, 51, 52, 53], [48, 51, 48, 47, 49, 50, 32, 51, 52, 53], [43, 52, 57, 32, 40, 51, 48, 41, 32, 49, 50, 51], [48, 32, 51, 48, 32, 65, 66, 67], [49, 45, 50, 48, 45, 65, 66, 67], [43, 49, 32, 50, 48, 32, 49, 43, 43], [48, 43, 51, 48, 49], [48, 46, 51, 46, 48, 46, 49], ra, rb, [195, 169], [48, 45, 90, 45, 122]] (fun x => x.length ≤ 100) _ (HS3.out.below (ext_alloc (Below.refl _ _))) (by omega) (by simp) (by have := HS3.out.lt; omega) (by omega) (by omega) (fun i hi => by rw [new_cell]; match i, hi with | 0, _ | 1, _ | 2, _ | 3, _ | 4, _ | 5, _ | 6, _ | 7, _ | 8, _ | 9, _ | 10, _ | 11, _ | 12, _ | 13, _ => rfl) (fun i hi => by match i, hi with | 0, _ | 1, _ | 2, _ | 3, _ | 4, _ | 5, _ | 6, _ | 7, _ | 8, _ | 9, _ | 12, _ | 13, _ => simp | 10, _ => exact hra | 11, _ => exact hrb)).mono ?_
            rintro e w5 ⟨x, rfl, hx, hst5, hkp5⟩
            have HK5 := Lib.hid ((HK3.out.alloc _).trans hkp5)
            have HS5 := Lib.hid hst5
            have HX := Lib.hid hx
            clear hst5 hkp5 hx
            go_wp2_with fail
            go_ret
            exact ⟨x, rfl, Nat.le_trans HX.out (by decide), HS5.out.mono (by omega), HKB.out.trans HK5.out⟩
end Go.Proofs.YthajppcmmmkfcaaGreatDoor
