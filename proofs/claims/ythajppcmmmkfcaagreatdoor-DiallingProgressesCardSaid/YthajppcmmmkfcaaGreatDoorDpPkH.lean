/- What is proved here: lemmas and contracts for the statement, put together out of smaller texts (FormString, WayDel, WayRef, ReadMath, ReadRef, ReadForm, PlanRev). No condition beyond those stated. -/
import Derived.Test.YthajppcmmmkfcaaGreatDoorDpPkC
import Derived.Test.YthajppcmmmkfcaaGreatDoorDpPkG
import Derived.Test.YthajppcmmmkfcaaGreatDoorDpPkE
import Derived.Test.YthajppcmmmkfcaaGreatDoorShelfRep
import Derived.Test.YthajppcmmmkfcaaGreatDoorDpPkF
import Derived.Lib.SliceRun
import Derived.Test.YthajppcmmmkfcaaGreatDoorDpPkB
import Derived.Deep.DeepCutAuto
import Derived.BigRegion
set_option linter.unusedVariables false
set_option linter.unusedSimpArgs false
namespace Go.Proofs.YthajppcmmmkfcaaGreatDoor
open Go.RowKit

theorem bs_form14 (e : Operand → Value) (he : ∀ v, e (.const v) = v) (o : Oper) (w : World) (i10 : Nat) (i11 : Nat) (p0 : ByteArray) (p1 : ByteArray) (p2 : ByteArray) (p3 : ByteArray) (p4 : ByteArray) (p5 : ByteArray) (p6 : ByteArray) (p7 : ByteArray) (p8 : ByteArray) (p9 : ByteArray) (p10 : ByteArray) (p11 : ByteArray) (p12 : ByteArray) (p13 : ByteArray) (ho : o.op = .buildSlice 46 14 #[(0, .const (.string p0)), (1, .const (.string p1)), (2, .const (.string p2)), (3, .const (.string p3)), (4, .const (.string p4)), (5, .const (.string p5)), (6, .const (.string p6)), (7, .const (.string p7)), (8, .const (.string p8)), (9, .const (.string p9)), (10, .tmp i10), (11, .tmp i11), (12, .const (.string p12)), (13, .const (.string p13))]) (h10 : e (.tmp i10) = .string p10) (h11 : e (.tmp i11) = .string p11) :
   (execOp e o).run Tryz.prog w = .ok (.value (.slice (some ⟨w.heap.size, 0, none⟩) 14 14)) (w.alloc (.cells #[.string p0, .string p1, .string p2, .string p3, .string p4, .string p5, .string p6, .string p7, .string p8, .string p9, .string p10, .string p11, .string p12, .string p13] 9)) := by
  unfold execOp
  rw [ho]
  simp only [List.map_toArray, List.map_cons, List.map_nil, he, h10, h11]
  kernel_rfl
theorem form_len {w : World} {a : Option Addr} {n : Nat} {l : List Ctry} (hr : CtryRow w a n l) {p : Ctry → Bool} {c : Ctry} (h : l.find? p = some c) (s : List UInt8) (hs : s.length ≤ 300) : (formP c (splitP l s)).length ≤ 900 := by
  obtain ⟨g1, g2, g3⟩ := ctry_len hr h
  obtain ⟨z1, z2, z3⟩ := spl_len hr s
  have := groups_len _ (splitP l s).rest (Nat.le_refl _)
  unfold formP formPre
  split <;> simp only [List.length_append, List.length_cons, List.length_nil] <;> omega

theorem home_find {l : List Ctry} {code area : List UInt8} (h : homeErr l code area = 0) : ∃ c, (l.find? fun c => c.code == code) = some c := by
  unfold homeErr homeR at h
  cases hf : l.find? fun c => c.code == code with
  | none => rw [hf] at h; cases h
  | some c => exact ⟨c, rfl⟩

set_option maxRecDepth 100000 in
set_option maxHeartbeats 4000000 in
theorem formString_any (S k : Nat) (w : World) (a : Option Addr) (n cap : Nat) (l : List Ctry) (code area : List UInt8) (h : StreamOk w S k) (hk : k ≤ 1000000) (hrow : ∀ w9, Keeps S w w9 → CtryRow w9 a n l) (hcap : n ≤ cap) (h1 : 1 ≤ n) (hna : ∀ i, i < l.length → 1 ≤ (l.getD i noCtry).an) (hco : code.length ≤ 100) (har : area.length ≤ 100) :
    Calls Tryz.prog 26 #[.pointer (some ⟨S, 0, none⟩), .slice a n cap, .agg #[.string ⟨code.toArray⟩, .string ⟨area.toArray⟩]] w (SomePost S (k + 5000) (fun s => s.length ≤ 1000) w) := by
  have HS := Lib.hid h
  have HR := Lib.hid hrow
  have HNA := Lib.hid hna
  have hlt := h.lt
  clear h hrow hna
  have HTWO : ∀ (w1 : World) (K : Act → World → Prop), True := fun _ _ => trivial
  clear HTWO
  go_enter Tryz.func26, Tryz.ntmps26
  go_upto_region 1 with (fail)
  have HKB : Hid (Keeps S w (w.alloc (.cells #[.string ⟨code.toArray⟩, .string ⟨area.toArray⟩] 29))) := (Keeps.refl S w).alloc _
  have HSB : Hid (StreamOk (w.alloc (.cells #[.string ⟨code.toArray⟩, .string ⟨area.toArray⟩] 29)) S k) := HS.out.below (ext_alloc (Below.refl _ _))
  have HC0 : Hid (∀ w9, Keeps S (w.alloc (.cells #[.string ⟨code.toArray⟩, .string ⟨area.toArray⟩] 29)) w9 → w9.cell? ⟨w.heap.size, 0, none⟩ = some (.string ⟨code.toArray⟩) ∧ w9.cell? ⟨w.heap.size, 1, none⟩ = some (.string ⟨area.toArray⟩) ∧ w.heap.size < w9.heap.size) := fun w9 h9 => ⟨(h9.cell (p := ⟨w.heap.size, 0, none⟩) (by simp) (by show w.heap.size ≠ S; omega)).trans (by go_simp), (h9.cell (p := ⟨w.heap.size, 1, none⟩) (by simp) (by show w.heap.size ≠ S; omega)).trans (by go_simp), by have := h9.size; simp at this; omega⟩
  generalize World.alloc w _ = W0 at HKB HSB HC0 ⊢
  obtain ⟨c0, c1, hz0⟩ := HC0.out W0 (Keeps.refl _ _)
  go_cut [20] (fun v wx => ∃ b : Bool, v = .bool b ∧ Hid (b = false → planErr l = 0 ∧ homeErr l code area = 0) ∧ Hid (StreamOk wx S (k + 1)) ∧ Hid (Keeps S W0 wx))
  case first =>
    go_wp2_with fail
    refine (flip_any S k 3 _ HSB.out (by omega) (by decide) (by decide)).mono ?_
    rintro e w1 ⟨fl, rfl, hst1, hk1⟩
    have HK1 := Lib.hid hk1
    have HS1 := Lib.hid hst1
    clear hst1 hk1 c0 c1 hz0
    cases fl
    · skip
      as_aux_lemma =>
        go_wp2_with fail
        refine (planFault_any _ a n cap l (HR.out _ (HKB.out.trans HK1.out)) hcap).mono ?_
        rintro e w2 ⟨rfl, hb2⟩
        have HK2 := Lib.hid (HK1.out.trans (Keeps.of_below hb2))
        have HS2 := Lib.hid (HS1.out.below hb2)
        clear hb2
        have HEQ : Hid (∀ E, planErr l = E → planErr l = E) := fun E h => h
        generalize hE : planErr l = E
        have HEE := Lib.hid (HEQ.out E hE)
        clear hE HEQ
        by_cases he : E = 0
        · subst he
          obtain ⟨c0, c1, hz0⟩ := HC0.out w2 HK2.out
          as_aux_lemma =>
            go_wp2_with fail
            refine (homeFault_any _ a n cap l (HR.out _ (HKB.out.trans HK2.out)) hcap h1 HNA.out code area).mono ?_
            rintro e w3 ⟨rfl, hb3⟩
            have HK3 := Lib.hid (HK2.out.trans (Keeps.of_below hb3))
            have HS3 := Lib.hid (HS2.out.below hb3)
            clear hb3
            have HEQ : Hid (∀ E, homeErr l code area = E → homeErr l code area = E) := fun E h => h
            generalize hE : homeErr l code area = E
            have HHE := Lib.hid (HEQ.out E hE)
            clear hE HEQ
            by_cases he : E = 0
            · subst he
              go_wp2_with fail
              go_meet
              exact ⟨false, rfl, fun _ => ⟨HEE.out, HHE.out⟩, HS3, HK3⟩
            · have hne : (E == 0) = false := by simpa using he
              go_wp2_with fail
              go_meet
              exact ⟨true, by rw [show (E != 0) = true by simpa using he], (fun h => by cases h), HS3, HK3⟩
        · have hne : (E == 0) = false := by simpa using he
          as_aux_lemma =>
            go_wp2_with fail
            go_meet
            exact ⟨true, rfl, (fun h => by cases h), HS2, HK2⟩
    · skip
      as_aux_lemma =>
        go_wp2_with fail
        go_meet
        exact ⟨true, rfl, (fun h => by cases h), HS1, HK1⟩
  case rest =>
    obtain ⟨b, rfl, HB, HS1, HK1⟩ := hcut
    clear c0 c1 hz0
    cases b
    · skip
      obtain ⟨hE, hH⟩ := HB.out rfl
      obtain ⟨c, hfc⟩ := home_find hH
      have HFC := Lib.hid hfc
      have HEE := Lib.hid hE
      have hz := HC0.out
      have hS0 : (fun W => W.cell? ⟨w.heap.size, 0, none⟩ = some (.string ⟨code.toArray⟩) ∧ W.cell? ⟨w.heap.size, 1, none⟩ = some (.string ⟨area.toArray⟩) ∧ w.heap.size < W.heap.size) wc.drew := HC0.out _ (HK1.out.trans (Keeps.of_below (ext_drew (Below.refl _ _))))
      have HS0 := Lib.hid hS0
      have HKD : Hid (Keeps S W0 wc.drew) := HK1.out.trans (Keeps.of_below (ext_drew (Below.refl _ _)))
      have HSD : Hid (StreamOk wc.drew S (k + 1)) := HS1.out.below (ext_drew (Below.refl _ _))
      clear hE hH hfc hz hS0 HB HS1 HK1
      skip
      as_aux_lemma =>
        go_upto_region 3 with (fail)
        refine region_seqI (S := fun W => W.cell? ⟨w.heap.size, 0, none⟩ = some (.string ⟨code.toArray⟩) ∧ W.cell? ⟨w.heap.size, 1, none⟩ = some (.string ⟨area.toArray⟩) ∧ w.heap.size < W.heap.size) [(true, 0), (true, 1), (true, 2), (true, 3), (false, 4), (false, 5), (true, 6)] (by kernel_rfl) (by kernel_rfl) rfl (by kernel_rfl) HS0.out ?_
        simp only [seqOps, List.getD_cons_zero, List.getD_cons_succ]
        refine seqI_take (v := .slice a n cap) rfl (fun W hW => by obtain ⟨m0, m1, m2⟩ := hW; go_simp) (fun _ _ _ h => h) ?_
        simp only [Act.put, List.setIfInBounds_toArray, List.set_cons_zero, List.set_cons_succ]
        refine seqI_take (v := .agg #[.string ⟨code.toArray⟩, .string ⟨area.toArray⟩]) rfl (fun W hW => by obtain ⟨m0, m1, m2⟩ := hW; go_simp) (fun _ _ _ h => h) ?_
        simp only [Act.put, List.setIfInBounds_toArray, List.set_cons_zero, List.set_cons_succ]
        refine seqI_take (v := .pointer (some ⟨S, 0, none⟩)) rfl (fun W hW => by obtain ⟨m0, m1, m2⟩ := hW; go_simp) (fun _ _ _ h => h) ?_
        simp only [Act.put, List.setIfInBounds_toArray, List.set_cons_zero, List.set_cons_succ]
        refine seqI_take (v := .slice a n cap) rfl (fun W hW => by obtain ⟨m0, m1, m2⟩ := hW; go_simp) (fun _ _ _ h => h) ?_
        simp only [Act.put, List.setIfInBounds_toArray, List.set_cons_zero, List.set_cons_succ]
        refine seqI_call 44 #[.pointer (some ⟨S, 0, none⟩), .slice a n cap] rfl (by go_simp) (rightNumber_any S (k + 1) _ a n cap l HSD.out (by omega) (fun w9 h9 => HR.out w9 (HKB.out.trans (HKD.out.trans h9))) hcap h1 HNA.out HEE.out) ?_
        rintro e w9 ⟨s, rfl, ⟨_, hs⟩, hst9, hk9⟩
        refine ⟨_, rfl, HC0.out _ (HKD.out.trans hk9), ?_⟩
        have HS9 := Lib.hid hst9
        have HK9 := Lib.hid (HKD.out.trans hk9)
        clear hst9 hk9
        simp only [Act.put, List.setIfInBounds_toArray, List.set_cons_zero, List.set_cons_succ]
        refine seqI_call 32 #[.slice a n cap, .agg #[.string ⟨code.toArray⟩, .string ⟨area.toArray⟩], .string ⟨s.toArray⟩] rfl (by go_simp) (formFrom_any w9 a n cap l (HR.out _ (HKB.out.trans HK9.out)) hcap h1 HEE.out c code area s HFC.out (by omega)) ?_
        rintro e w10 ⟨rfl, hb10⟩
        have HK10 := Lib.hid (HK9.out.trans (Keeps.of_below hb10))
        have HS10 := Lib.hid (HS9.out.below hb10)
        have hfl := form_len (HR.out _ (HKB.out.trans HK9.out)) HFC.out s hs
        refine ⟨_, rfl, HC0.out _ HK10.out, ?_⟩
        clear hb10
        generalize formP c (splitP l s) = t at hfl
        simp only [Act.put, List.setIfInBounds_toArray, List.set_cons_zero, List.set_cons_succ]
        refine seqI_take (v := .string ⟨t.toArray⟩) rfl (fun W hW => by obtain ⟨m0, m1, m2⟩ := hW; go_simp) (fun _ _ _ h => h) ?_
        simp only [Act.put, List.setIfInBounds_toArray, List.set_cons_zero, List.set_cons_succ]
        refine seqI_nil ?_
        clear HS0 HSD HKD HS9 HK9
        go_wp2_with fail
        refine (pick_any S (k + 1 + 4000) w10.heap.size 3 3 [0, 0, 1] (fun x => 0 ≤ x ∧ x ≤ 1) _ (HS10.out.below (ext_alloc (Below.refl _ _))) (by omega) (by simp) (by have := HS10.out.lt; omega) (by omega) (by omega) (fun i hi => by match i, hi with | 0, _ | 1, _ | 2, _ => go_simp) (fun i hi => by match i, hi with | 0, _ | 1, _ | 2, _ => decide)).mono ?_
        rintro e w11 ⟨r, rfl, ⟨r0, r1⟩, hst11, hk11⟩
        have HK11 := Lib.hid ((HK10.out.alloc _).trans hk11)
        have HS11 := Lib.hid hst11
        clear hst11 hk11
        obtain ⟨r, rfl⟩ := Int.eq_ofNat_of_zero_le r0
        clear r0
        go_wp2_with fail
        go_loopw [7, 35] (fun v i wr => ∃ (j : Nat) (x : List UInt8), j ≤ r ∧ x.length ≤ 900 + 13 * j ∧ v = .string ⟨x.toArray⟩ ∧ i = .int .i64 j ∧ Hid (StreamOk wr S (k + 4002 + 3 * j)) ∧ Hid (Keeps S W0 wr)) (fun _ i _ => r - (intOf i).toNat)
        case atStart => exact ⟨0, t, Nat.zero_le _, by omega, rfl, rfl, HS11.out.mono (by omega), HK11⟩
        case round =>
          obtain ⟨j, x, hj, hx, rfl, rfl, HSr, HKr⟩ := hrel
          by_cases hlt : j < r
          · have hjr : (j : Int) < (r : Int) := by omega
            go_wp2_with fail
            refine (changed_any S (k + 4002 + 3 * j) wr x [48, 45, 46, 32, 40, 41, 43, 97, 90] HSr.out (by omega) (by omega) (by decide)).mono ?_
            rintro e w12 ⟨y, rfl, hy, hst12, hk12⟩
            have HK12 := Lib.hid (HKr.out.trans hk12)
            have HS12 := Lib.hid hst12
            have hy2 : y.length ≤ 900 + 13 * (j + 1) := by simp only [List.length_cons, List.length_nil] at hy; omega
            clear hst12 hk12 hy
            go_wp2_with fail
            go_roundw
            case rel => exact ⟨j + 1, y, by omega, hy2, rfl, by go_num, HS12.out.mono (by omega), HK12⟩
            case measure => simp [intOf]; omega
          · have hjr : ¬ ((j : Int) < (r : Int)) := by omega
            have hxl : x.length ≤ 1000 := by omega
            have HXL := Lib.hid hxl
            have HSF := Lib.hid (HSr.out.mono (show k + 4002 + 3 * j ≤ k + 5000 by omega))
            clear hxl
            go_wp2_with fail
            go_ret
            exact ⟨x, rfl, HXL.out, HSF.out, HKB.out.trans HKr.out⟩
    · skip
      as_aux_lemma =>
        go_wp2_with (first | (refine wpList_val rfl (bs_form14 _ (fun _ => rfl) _ _ _ _ _ _ _ _ _ _ _ _ _ _ _ _ _ _ rfl rfl rfl) ?_))
        refine (Tryz.strings_Repeat ⟨#[49]⟩ 60 _ (by decide) (by decide)).mono ?_
        rintro e w2 ⟨rfl, hb2⟩
        have hra : (Lib.repeatL (⟨#[49]⟩ : ByteArray).data.toList 60).length ≤ 100 := by rw [Lib.repeatL_length]; decide
        generalize Lib.repeatL (⟨#[49]⟩ : ByteArray).data.toList 60 = ra at hra
        have HK2 := Lib.hid (HK1.out.trans (Keeps.of_below hb2))
        have HS2 := Lib.hid (HS1.out.below hb2)
        clear hb2 HB
        as_aux_lemma =>
          go_wp2_with (first | (refine wpList_val rfl (bs_form14 _ (fun _ => rfl) _ _ _ _ _ _ _ _ _ _ _ _ _ _ _ _ _ _ rfl rfl rfl) ?_))
          refine (Tryz.strings_Repeat ⟨#[49]⟩ 61 _ (by decide) (by decide)).mono ?_
          rintro e w3 ⟨rfl, hb3⟩
          have hrb : (Lib.repeatL (⟨#[49]⟩ : ByteArray).data.toList 61).length ≤ 100 := by rw [Lib.repeatL_length]; decide
          generalize Lib.repeatL (⟨#[49]⟩ : ByteArray).data.toList 61 = rb at hrb
          have HK3 := Lib.hid (HK2.out.trans (Keeps.of_below hb3))
          have HS3 := Lib.hid (HS2.out.below hb3)
          clear hb3 HK2 HS2
          as_aux_lemma =>
            go_wp2_with (first | (refine wpList_val rfl (bs_form14 _ (fun _ => rfl) _ _ _ _ _ _ _ _ _ _ _ _ _ _ _ _ _ _ rfl rfl rfl) ?_))
            refine (some_any S (k + 1) w3.heap.size 14 14 [[], [43], [40, 48, 51, 48, 41, 32, 49, 50, 45, 51, 52, 53], [48, 51, 48, 47, 49, 50, 32, 51, 52, 53], [43, 52, 57, 32, 40, 51, 48, 41, 32, 49, 50, 51], [48, 32, 51, 48, 32, 65, 66, 67], [49, 45, 50, 48, 45, 65, 66, 67], [43, 49, 32, 50, 48, 32, 49, 43, 43], [48, 43, 51, 48, 49], [48, 46, 51, 46, 48, 46, 49], ra, rb, [195, 169], [48, 45, 90, 45, 122]] (fun x => x.length ≤ 100) _ (HS3.out.below (ext_alloc (Below.refl _ _))) (by omega) (by simp) (by have := HS3.out.lt; omega) (by omega) (by omega) (fun i hi => by rw [new_cell]; match i, hi with | 0, _ | 1, _ | 2, _ | 3, _ | 4, _ | 5, _ | 6, _ | 7, _ | 8, _ | 9, _ | 10, _ | 11, _ | 12, _ | 13, _ => rfl) (fun i hi => by match i, hi with | 0, _ | 1, _ | 2, _ | 3, _ | 4, _ | 5, _ | 6, _ | 7, _ | 8, _ | 9, _ | 12, _ | 13, _ => simp | 10, _ => exact hra | 11, _ => exact hrb)).mono ?_
            rintro e w5 ⟨x, rfl, hx, hst5, hkp5⟩
            have HK5 := Lib.hid ((HK3.out.alloc _).trans hkp5)
            have HS5 := Lib.hid hst5
            have HX := Lib.hid hx
            clear hst5 hkp5 hx
            go_wp2_with fail
            go_ret
            exact ⟨x, rfl, Nat.le_trans HX.out (by decide), HS5.out.mono (by omega), HKB.out.trans HK5.out⟩
end Go.Proofs.YthajppcmmmkfcaaGreatDoor

set_option linter.unusedVariables false
set_option linter.unusedSimpArgs false
namespace Go.Proofs.YthajppcmmmkfcaaGreatDoor
open Go.RowKit

/-- What is asked of the predicate: in every world in which nothing that lay here has turned. -/
def PredS (g : Nat) (lb : Array Value) (p : List UInt8 → Bool) (xs : List (List UInt8)) (w : World) : Prop :=
  (∀ args w, (callFunc g args).run Tryz.prog w = .ok (.enter g args) w) ∧ ∀ (W : World) (j : Nat), j < xs.length → Below w.heap.size w W → Calls Tryz.prog g (#[.string ⟨(xs.getD j []).toArray⟩] ++ lb) W fun e w' => e = .returned (.bool (p (xs.getD j []))) ∧ Below W.heap.size W w'

set_option maxRecDepth 100000 in
set_option maxHeartbeats 1000000 in
theorem idxS_any (g : Nat) (lb : Array Value) (p : List UInt8 → Bool) (w : World) (base B n cap : Nat) (xs : List (List UInt8)) (hown : w.ownsRow base 9 1 (.slice (some ⟨B, 0, none⟩) n cap) n (xs.map encS)) (hn : n ≤ 1000) (hB : B < w.heap.size) (hp : PredS g lb p xs w) :
    Calls Tryz.prog 106 #[.slice (some ⟨B, 0, none⟩) n cap, .func (.func g) #[] lb] w fun e w' => (∃ r : Int, e = .returned (.int .i64 r) ∧ ((r = -1 ∧ ∀ j, j < n → p (xs.getD j []) = false) ∨ ∃ k, k < n ∧ r = (k : Int) ∧ p (xs.getD k []) = true ∧ ∀ j, j < k → p (xs.getD j []) = false)) ∧ Below w.heap.size w w' := by
  have hl : xs.length = n := by have := hown.1; simpa using this
  have HL := Lib.hid hl
  have HO := Lib.hid hown
  have eg := hp.1
  have HP := Lib.hid hp.2
  have HBL := Lib.hid hB
  clear hown hp hl
  go_enter Tryz.func106, Tryz.ntmps106
  go_wp2_with fail
  go_loopw [8] (fun i wr => ∃ k : Nat, k ≤ n ∧ i = .int .i64 k ∧ Hid (∀ j, j < k → p (xs.getD j []) = false) ∧ Hid (Below w.heap.size w wr)) (fun i _ => n - (intOf i).toNat)
  case atStart => exact ⟨0, Nat.zero_le _, rfl, fun j hj => absurd hj (Nat.not_lt_zero j), Below.refl _ _⟩
  case round =>
    obtain ⟨k, hk, rfl, HG, HB⟩ := hrel
    by_cases hlt : k < n
    · have ck : wr.cell? ⟨B, k, none⟩ = some (.string ⟨(xs.getD k []).toArray⟩) := by
        rw [HB.out.cell (p := ⟨B, k, none⟩) HBL.out, HO.out.cellAt k (by omega)]
        have : k < xs.length := by rw [HL.out]; exact hlt
        simp [encS, this]
      have HCALL := Lib.hid (fun W (h : Below wr.heap.size wr W) => HP.out W k (by rw [HL.out]; exact hlt) (ext_trans HB.out h))
      have HGK := Lib.hid (fun (h : p (xs.getD k []) = false) j (hj : j < k + 1) => (show p (xs.getD j []) = false by
        rcases Nat.lt_or_ge j k with h2 | h2
        · exact HG.out j h2
        · obtain rfl : j = k := by omega
          exact h))
      have hBw : B < wr.heap.size := Nat.lt_of_lt_of_le HBL.out HB.out.size
      have HPE : Hid (∀ b, p (xs.getD k []) = b → p (xs.getD k []) = b) := fun _ h => h
      generalize hb : p (xs.getD k []) = b at HCALL
      have HBE := Lib.hid (HPE.out b hb)
      clear hb HPE
      generalize xs.getD k [] = d at ck HCALL
      as_aux_lemma =>
        go_wp2_with fail
        refine (HCALL.out wr (Below.refl _ _)).mono ?_
        rintro e w8 ⟨rfl, hb8⟩
        have HB8 := Lib.hid (ext_trans HB.out hb8)
        clear hb8
        cases b
        · go_wp2_with fail
          go_roundw
          case rel => exact ⟨k + 1, by omega, by go_num, HGK.out HBE.out, HB8⟩
          case measure => simp [intOf]; omega
        · go_wp2_with fail
          go_ret
          exact ⟨⟨k, rfl, Or.inr ⟨k, hlt, rfl, HBE.out, HG.out⟩⟩, HB8.out⟩
    · obtain rfl : k = n := by omega
      as_aux_lemma =>
        go_wp2_with fail
        go_ret
        exact ⟨⟨-1, rfl, Or.inl ⟨rfl, HG.out⟩⟩, HB.out⟩

theorem own_cut {w : World} {base B cap n m : Nat} {e : TypeId} {xs : List Value} (h : w.ownsRow base e 1 (.slice (some ⟨B, 0, none⟩) n cap) n xs) (hm : m ≤ n) : w.ownsRow base e 1 (.slice (some ⟨B, 0, none⟩) m cap) m (xs.take m) := by
  have h1 := h.1
  rcases h.2 with ⟨h0, _⟩ | ⟨g, cap', cur, h0, hb, hg, hn, hc, hs, ht⟩
  · cases h0
  · injection h0 with e1 _ e3
    injection e1 with e1
    injection e1 with e1
    subst e1 e3
    refine ⟨by rw [List.length_take]; omega, .inr ⟨B, cap, cur, rfl, hb, hg, by omega, hc, hs, ?_⟩⟩
    rw [← ht, List.take_take, Nat.mul_one, Nat.mul_one, Nat.min_eq_left hm]

/-- What is left, where at most the last is struck. -/
def keptS (p : List UInt8 → Bool) (xs : List (List UInt8)) : List (List UInt8) := xs.filter fun x => !p x

set_option maxRecDepth 100000 in
set_option maxHeartbeats 1000000 in
theorem delS_any (g : Nat) (lb : Array Value) (p : List UInt8 → Bool) (w : World) (base B q cap : Nat) (ys : List (List UInt8)) (z : List UInt8) (hown : w.ownsRow base 9 1 (.slice (some ⟨B, 0, none⟩) (q + 1) cap) (q + 1) ((ys ++ [z]).map encS)) (hn : q ≤ 900) (hB : B < w.heap.size) (hbase : base ≤ B) (hbw : base ≤ w.heap.size) (hp : PredS g lb p (ys ++ [z]) w) (hys : ∀ y ∈ ys, p y = false) :
    Calls Tryz.prog 71 #[.slice (some ⟨B, 0, none⟩) (q + 1) cap, .func (.func g) #[] lb] w fun e w' => ∃ v, e = .returned v ∧ w'.ownsRow base 9 1 v (keptS p (ys ++ [z])).length ((keptS p (ys ++ [z])).map encS) ∧ Below base w w' := by
  have hq : ys.length = q := by have := hown.1; simp at this; omega
  have hIF := idxS_any g lb p w base B (q + 1) cap (ys ++ [z]) hown (by omega) hB hp
  have hfy : ys.filter (fun x => !p x) = ys := by
    rw [List.filter_eq_self]
    intro y hy
    rw [hys y hy]; rfl
  have HQ := Lib.hid hq
  have HO := Lib.hid hown
  have HBB := Lib.hid (And.intro hbase hbw)
  have hlast : (ys ++ [z]).getD q [] = z := by simp [← hq]
  have hfirst : ∀ j, j < q → (ys ++ [z]).getD j [] ∈ ys := fun j hj => by
    have h2 : j < ys.length := by rw [hq]; exact hj
    rw [show (ys ++ [z]).getD j [] = ys[j] by simp [List.getElem?_append_left h2, h2]]
    exact List.getElem_mem h2
  cases hz : p z with
  | false =>
    have HK : Hid (keptS p (ys ++ [z]) = ys ++ [z]) := by
      show List.filter _ _ = _
      rw [List.filter_append, hfy]
      simp [hz]
    have hIF2 : Calls Tryz.prog 106 #[.slice (some ⟨B, 0, none⟩) (q + 1) cap, .func (.func g) #[] lb] w fun e w' => e = .returned (.int .i64 (-1)) ∧ Below w.heap.size w w' := by
      refine hIF.mono ?_
      rintro e w' ⟨⟨r, rfl, h⟩, hb⟩
      rcases h with ⟨rfl, _⟩ | ⟨k, hk, rfl, ht, _⟩
      · exact ⟨rfl, hb⟩
      · exfalso
        rcases Nat.lt_or_ge k q with h2 | h2
        · rw [hys _ (hfirst k h2)] at ht; cases ht
        · obtain rfl : k = q := by omega
          rw [hlast, hz] at ht; cases ht
    have HIF := Lib.hid hIF2
    clear hIF hIF2 hfy hfirst hlast hz hys hp hown hq
    rw [HK.out]
    go_enter Tryz.func71, Tryz.ntmps71
    go_wp2_with fail
    refine HIF.out.mono ?_
    rintro e w1 ⟨rfl, hb1⟩
    have HB1 := Lib.hid hb1
    clear hb1
    go_wp2_with fail
    go_ret
    exact ⟨_, rfl, by rw [show (ys ++ [z]).length = q + 1 by rw [List.length_append, HQ.out]; rfl]; exact own_keep HO.out HB1.out, HB1.out.mono HBB.out.2⟩
  | true =>
    have HK : Hid (keptS p (ys ++ [z]) = ys) := by
      show List.filter _ _ = _
      rw [List.filter_append, hfy]
      simp [hz]
    have hIF2 : Calls Tryz.prog 106 #[.slice (some ⟨B, 0, none⟩) (q + 1) cap, .func (.func g) #[] lb] w fun e w' => e = .returned (.int .i64 q) ∧ Below w.heap.size w w' := by
      refine hIF.mono ?_
      rintro e w' ⟨⟨r, rfl, h⟩, hb⟩
      rcases h with ⟨_, h⟩ | ⟨k, hk, rfl, ht, _⟩
      · have := h q (by omega)
        rw [hlast, hz] at this; cases this
      · rcases Nat.lt_or_ge k q with h2 | h2
        · rw [hys _ (hfirst k h2)] at ht; cases ht
        · obtain rfl : k = q := by omega
          exact ⟨rfl, hb⟩
    have HIF := Lib.hid hIF2
    have hne : ((q : Int) == -1) = false := beq_eq_false_iff_ne.2 (by omega)
    clear hIF hIF2 hfy hfirst hlast hz hys hp hown hq
    rw [HK.out]
    go_enter Tryz.func71, Tryz.ntmps71
    go_wp2_with fail
    refine HIF.out.mono ?_
    rintro e w1 ⟨rfl, hb1⟩
    have HB1 := Lib.hid hb1
    have HO1 := Lib.hid (own_keep HO.out hb1)
    clear hb1
    have hcap : q + 1 ≤ cap := by
      rcases HO1.out.2 with ⟨h, _⟩ | ⟨g9, cap9, cur9, h, _, _, h2, _⟩
      · cases h
      · injection h with _ _ h3
        omega
    have hcq : ¬ (cap = q) := by omega
    have hc1 : (w1.cell? ⟨B, q, none⟩).isSome = true := by
      rw [HO1.out.cellAt q (by omega)]
      simp [HQ.out]
    have hf1 : w1.frozen? ⟨B, q, none⟩ = false := HO1.out.frozenAt _
    have hcl : ∀ ty, (Builtin.clear_ #[46] ty #[.slice (some ⟨B, q, none⟩) 1 (cap - q)]).run Tryz.prog w1 = .ok (.tuple #[]) (w1.setCells B q (List.replicate 1 (.string ⟨#[]⟩))) := fun ty =>
      Lib.run_clear_slice w1 46 9 ty (.string ⟨#[]⟩) Tryz.underlying46 Tryz.zeroValue9 rfl rfl B q 1 (cap - q) (by omega) (fun t ht => by have h0 : q + t = q := (by omega); rw [h0]; exact hc1) (fun t ht => by have h0 : q + t = q := (by omega); rw [h0]; exact hf1)
    as_aux_lemma =>
      go_wp2_with fail
      go_loopw [5, 6] (fun x i wr => x = .int .i64 q ∧ i = .int .i64 ((q : Int) + 1) ∧ wr = w1) (fun _ _ _ => 0)
      case atStart => exact ⟨rfl, rfl, rfl⟩
      case round =>
        obtain ⟨rfl, rfl, rfl⟩ := hrel
        have HFO : Hid ((wr.setCells B q [.string ⟨#[]⟩]).ownsRow base 9 1 (.slice (some ⟨B, 0, none⟩) q cap) ys.length (ys.map encS)) := by
          have h1 := own_cut (HO1.out.stored q (.string ⟨#[]⟩)).1 (Nat.le_succ q)
          have h2 : (((ys ++ [z]).map encS).set q (.string ⟨#[]⟩)).take q = ys.map encS := by
            rw [List.take_set_of_le (Nat.le_refl q), ← List.map_take, ← HQ.out, List.take_left]
          rw [h2] at h1
          show World.ownsRow _ _ _ _ _ _ _
          rw [HQ.out]
          exact h1
        have HFB : Hid (Below base w (wr.setCells B q [.string ⟨#[]⟩])) := (HB1.out.mono HBB.out.2).setCell HBB.out.1 _
        go_wp2_with fail
        go_ret
        exact ⟨_, rfl, HFO.out, HFB.out⟩
end Go.Proofs.YthajppcmmmkfcaaGreatDoor

set_option linter.unusedVariables false
set_option linter.unusedSimpArgs false
namespace Go.Proofs.YthajppcmmmkfcaaGreatDoor
open Go.RowKit

def WayFPost (S k : Nat) (xs : List (List UInt8)) (w : World) (e : Ending) (w' : World) : Prop :=
  ∃ v, e = .returned v ∧ w'.ownsRow w.heap.size 9 1 v xs.length (xs.map encS) ∧ Keeps S w w' ∧ StreamOk w' S k
/-- What the predicate asks. -/
def lostP (l : List Ctry) (c : Ctry) (area n x : List UInt8) : Bool := !decide (reachP l c area x = (0, n))

set_option maxRecDepth 100000 in
set_option maxHeartbeats 4000000 in
theorem lost_any (l : List Ctry) (b off n cap : Nat) (hcap : n ≤ cap) (hne : 1 ≤ n) (hE : planErr l = 0) (c : Ctry) (code0 area s x : List UInt8) (hfc : (l.find? fun c => c.code == code0) = some c) (ha : area.length ≤ 100) (hx : x.length ≤ 1000) (B0 B1 B2 : Nat) (W : World) (hrow : CtryRow W (some ⟨b, off, none⟩) n l) (f0 : W.cell? ⟨B0, 0, none⟩ = some (.slice (some ⟨b, off, none⟩) n cap)) (f1 : W.cell? ⟨B1, 0, none⟩ = some (.string ⟨code0.toArray⟩)) (f2 : W.cell? ⟨B1, 1, none⟩ = some (.string ⟨area.toArray⟩)) (f3 : W.cell? ⟨B2, 0, none⟩ = some (.string ⟨s.toArray⟩)) (l0 : B0 < W.heap.size) (l1 : B1 < W.heap.size) (l2 : B2 < W.heap.size) :
    Calls Tryz.prog 72 #[.string ⟨x.toArray⟩, .pointer (some ⟨B0, 0, none⟩), .pointer (some ⟨B1, 0, none⟩), .pointer (some ⟨B2, 0, none⟩)] W fun e w' => e = .returned (.bool (lostP l c area s x)) ∧ Below W.heap.size W w' := by
  have HRE := Lib.hid (reachedFrom_any W _ n cap l hrow hcap hne hE c code0 area x hfc ha hx)
  have HL : Hid (lostP l c area s x = !decide (reachP l c area x = (0, s))) := rfl
  generalize lostP l c area s x = r at HL ⊢
  clear hrow hE hfc
  go_enter Tryz.func72, Tryz.ntmps72
  go_wp2_with fail
  refine HRE.out.mono ?_
  rintro e w1 ⟨rfl, hb1⟩
  have f3' := (hb1.cell (p := ⟨B2, 0, none⟩) l2).trans f3
  have l2' : B2 < w1.heap.size := Nat.lt_of_lt_of_le l2 hb1.size
  have HB1 := Lib.hid hb1
  clear hb1 HRE
  generalize reachP l c area x = rr at HL ⊢
  obtain ⟨er, y⟩ := rr
  simp only
  by_cases her : er = 0
  · subst her
    by_cases hy : y = s
    · have HF : Hid (r = false) := by show _ = _; rw [HL.out, hy]; simp
      have hyb : (y == s) = true := by simpa using hy
      clear hy HL
      as_aux_lemma =>
        go_wp2_with fail
        go_ret
        exact ⟨by rw [HF.out]; rfl, HB1.out⟩
    · have HF : Hid (r = true) := by show _ = _; rw [HL.out]; simp [hy]
      have hyb : (y == s) = false := by simpa using hy
      clear hy HL
      as_aux_lemma =>
        go_wp2_with fail
        go_ret
        exact ⟨by rw [HF.out]; rfl, HB1.out⟩
  · have HF : Hid (r = true) := by show _ = _; rw [HL.out]; simp [her]
    have heb : (er == 0) = false := by simpa using her
    clear HL
    as_aux_lemma =>
      go_wp2_with fail
      go_ret
      exact ⟨by rw [HF.out]; rfl, HB1.out⟩

set_option maxRecDepth 100000 in
set_option maxHeartbeats 8000000 in
theorem waysFrom_any (S k : Nat) (w : World) (a : Option Addr) (n cap : Nat) (l : List Ctry) (h : StreamOk w S k) (hk : k ≤ 10000000) (hrow : ∀ w9, Keeps S w w9 → CtryRow w9 a n l) (hcap : n ≤ cap) (hne : 1 ≤ n) (hE : planErr l = 0) (c : Ctry) (code0 area s : List UInt8) (hfc : (l.find? fun c => c.code == code0) = some c) (hIN : HomeIn l c area) (ha : area.length ≤ 100) (hs : s.length ≤ 500) (hS : (splitP l s).err = 0) :
    Calls Tryz.prog 24 #[.slice a n cap, .agg #[.string ⟨code0.toArray⟩, .string ⟨area.toArray⟩], .string ⟨s.toArray⟩] w (WayFPost S k (sortW (waysL l c area s)) w) := by
  have HR := Lib.hid hrow
  have HE0 := Lib.hid hE
  have HFC := Lib.hid hfc
  have HIN := Lib.hid hIN
  have HSO := Lib.hid hS
  have hlt := h.lt
  have HST := Lib.hid h
  obtain ⟨b, off, rfl, hb, _⟩ := ctry_at (hrow w (Keeps.refl _ _)) hne
  have HLEN := Lib.hid (hrow w (Keeps.refl _ _)).len
  have hfew := (hrow w (Keeps.refl _ _)).few
  obtain ⟨kk, hkn, hck, HAT⟩ : ∃ kk : Nat, kk < n ∧ Hid (l.getD kk noCtry = c) ∧ Hid (∀ W : World, Keeps S w W → Calls Tryz.prog 56 #[.slice (some ⟨b, off, none⟩) n cap, .string ⟨code0.toArray⟩] W fun e w' => e = .returned (.int .i64 kk) ∧ Below W.heap.size W w') := by
    have hidx := idx_find (fun x : Ctry => x.code == code0) l
    rcases hidx with ⟨_, hn⟩ | ⟨k, hk, hi, hs2, _⟩
    · rw [hfc] at hn; cases hn
    · refine ⟨k, by rw [HLEN.out]; exact hk, by rw [hfc] at hs2; injection hs2 with h; show _ = _; rw [h]; simp [hk], fun W hW => ?_⟩
      refine (countryAt_idx W _ n cap l (HR.out W hW) hne code0).mono ?_
      rintro e w' ⟨rfl, hb⟩
      exact ⟨by rw [hi], hb⟩
  have HKC : Hid (∀ W, Keeps S w W → W.cell? ⟨b, off + kk * 4, none⟩ = some (.string ⟨c.code.toArray⟩) ∧ W.cell? ⟨b, off + kk * 4 + 1, none⟩ = some (.string ⟨c.abroad.toArray⟩) ∧ W.cell? ⟨b, off + kk * 4 + 2, none⟩ = some (.string ⟨c.trunk.toArray⟩) ∧ W.cell? ⟨b, off + kk * 4 + 3, none⟩ = some (.slice c.aa c.an c.ac)) := fun W hW => by
    obtain ⟨b9, off9, ha9, _, hc9⟩ := ctry_at (HR.out W hW) hne
    injection ha9 with ha9
    injection ha9 with e1 e2
    subst e1 e2
    have := hc9 kk hkn
    rw [hck.out] at this
    exact ⟨this 0 (by omega), this 1 (by omega), this 2 (by omega), this 3 (by omega)⟩
  have HBW : Hid (∀ W, Keeps S w W → b < W.heap.size) := fun W hW => Nat.lt_of_lt_of_le hb hW.size
  have HFI : Hid (c.code.length ≤ 100 ∧ c.abroad.length ≤ 100 ∧ c.trunk.length ≤ 100) := ctry_len (hrow w (Keeps.refl _ _)) hfc
  clear hrow h hE hfc hIN hS
  obtain ⟨code, abroad, trunk, aa, an, ac, areas⟩ := c
  simp only at HKC
  obtain ⟨q1, q2, q3⟩ := HFI.out
  simp only at q1 q2 q3
  go_enter Tryz.func24, Tryz.ntmps24
  go_upto_region 1 with (fail)
  have HKB : Hid (Keeps S w (((w.alloc (.cells #[.slice (some ⟨b, off, none⟩) n cap] 26)).alloc (.cells #[.string ⟨code0.toArray⟩, .string ⟨area.toArray⟩] 29)).alloc (.cells #[.string ⟨s.toArray⟩] 9))) := (((Keeps.refl S w).alloc _).alloc _).alloc _
  have HSB : Hid (StreamOk (((w.alloc (.cells #[.slice (some ⟨b, off, none⟩) n cap] 26)).alloc (.cells #[.string ⟨code0.toArray⟩, .string ⟨area.toArray⟩] 29)).alloc (.cells #[.string ⟨s.toArray⟩] 9)) S k) := HST.out.below (ext_alloc (ext_alloc (ext_alloc (Below.refl _ _))))
  have HBX : Hid (∀ W, Keeps S (((w.alloc (.cells #[.slice (some ⟨b, off, none⟩) n cap] 26)).alloc (.cells #[.string ⟨code0.toArray⟩, .string ⟨area.toArray⟩] 29)).alloc (.cells #[.string ⟨s.toArray⟩] 9)) W → (W.cell? ⟨w.heap.size, 0, none⟩ = some (.slice (some ⟨b, off, none⟩) n cap) ∧ W.cell? ⟨w.heap.size + 1, 0, none⟩ = some (.string ⟨code0.toArray⟩) ∧ W.cell? ⟨w.heap.size + 1, 1, none⟩ = some (.string ⟨area.toArray⟩) ∧ W.cell? ⟨w.heap.size + 1 + 1, 0, none⟩ = some (.string ⟨s.toArray⟩)) ∧ w.heap.size < W.heap.size ∧ w.heap.size + 1 < W.heap.size ∧ w.heap.size + 1 + 1 < W.heap.size) := fun W h9 => by
    have hz := h9.size
    simp at hz
    exact ⟨⟨(h9.cell (p := ⟨w.heap.size, 0, none⟩) (by simp; omega) (by show w.heap.size ≠ S; omega)).trans (by go_simp), (h9.cell (p := ⟨w.heap.size + 1, 0, none⟩) (by simp) (by show w.heap.size + 1 ≠ S; omega)).trans (by go_simp), (h9.cell (p := ⟨w.heap.size + 1, 1, none⟩) (by simp) (by show w.heap.size + 1 ≠ S; omega)).trans (by go_simp), (h9.cell (p := ⟨w.heap.size + 1 + 1, 0, none⟩) (by simp) (by show w.heap.size + 1 + 1 ≠ S; omega)).trans (by go_simp)⟩, by omega, by omega, by omega⟩
  have s0 : w.heap.size ≠ S := by omega
  have s1 : w.heap.size + 1 ≠ S := by omega
  have s2 : w.heap.size + 1 + 1 ≠ S := by omega
  have HWZ : Hid (w.heap.size ≤ (((w.alloc (.cells #[.slice (some ⟨b, off, none⟩) n cap] 26)).alloc (.cells #[.string ⟨code0.toArray⟩, .string ⟨area.toArray⟩] 29)).alloc (.cells #[.string ⟨s.toArray⟩] 9)).heap.size) := by show _ ≤ _; simp; omega
  generalize (World.alloc (World.alloc (w.alloc _) _) _) = W0 at HKB HSB HBX HWZ ⊢
  generalize w.heap.size + 1 + 1 = B2 at HBX s2 ⊢
  generalize w.heap.size + 1 = B1 at HBX s1 ⊢
  obtain ⟨B0, hB0⟩ : ∃ B0, B0 = w.heap.size := ⟨_, rfl⟩
  rw [← hB0] at HBX s0 ⊢
  have HB0 := Lib.hid hB0
  clear hB0
  obtain ⟨⟨f0, f1, f2, f3⟩, l0, l1, l2⟩ := HBX.out W0 (Keeps.refl _ _)
  have hbw : b < W0.heap.size := HBW.out W0 HKB.out
  have hSw : S < W0.heap.size := HSB.out.lt
  generalize HPOST : sortW (waysL l ⟨code, abroad, trunk, aa, an, ac, areas⟩ area s) = POST
  have HPO := Lib.hid HPOST
  clear HPOST
  go_cut [7] (fun v wx => ∃ C, v = .pointer (some ⟨C, 0, none⟩) ∧ Hid ((wx.cell? ⟨C, 0, none⟩ = some (.string ⟨code.toArray⟩) ∧ wx.cell? ⟨C, 1, none⟩ = some (.string ⟨abroad.toArray⟩) ∧ wx.cell? ⟨C, 2, none⟩ = some (.string ⟨trunk.toArray⟩)) ∧ C < wx.heap.size) ∧ Hid (Keeps S W0 wx) ∧ Hid (StreamOk wx S k))
  case first =>
    refine region_all S (k) 1 8 7 [.val (fun v => .slice (some ⟨b, off, none⟩) n cap = v), .val (fun v => .slice (some ⟨b, off, none⟩) n cap = v), .val (fun v => .pointer (some ⟨B1, 0, none⟩) = v), .val (fun v => .string ⟨code0.toArray⟩ = v), .val (fun v => .int .i64 (kk : Nat) = v), .val (fun v => .pointer (some ⟨b, off + kk * 4, none⟩) = v), .val (fun v => .agg #[.string ⟨code.toArray⟩, .string ⟨abroad.toArray⟩, .string ⟨trunk.toArray⟩, .slice aa an ac] = v), .mem (fun (w9 : World) (v : Value) => ∃ b, v = .pointer (some ⟨b, 0, none⟩) ∧ W0.heap.size ≤ b ∧ w9.heap[b]? = some (.cells #[.string ⟨#[]⟩, .string ⟨#[]⟩, .string ⟨#[]⟩, .slice none 0 0] 68))] [] [some 13, some 14, some 15, some 16, some 17, some 18, some 19, some 7] (by kernel_rfl) (by kernel_rfl) (by kernel_rfl) (by kernel_rfl) (by kernel_rfl) (by kernel_rfl) rfl (by kernel_rfl) rfl rfl (by kernel_rfl) HSB.out ⟨?_, ?_, ?_, ?_, ?_, ?_, ?_, ?_, trivial⟩ ?_
    · intro a w' c hk hst hc hfr hdp K hK
      as_aux_lemma =>
        have E3 : a.eval (.tmp 3) = .pointer (some ⟨B0, 0, none⟩) := fr_list hfr 3 (by kernel_rfl)
        have d3 := slot_of E3
        have cl : w'.cell? ⟨B0, 0, none⟩ = some (.slice (some ⟨b, off, none⟩) n cap) := (hk.cell (p := ⟨B0, 0, none⟩) l0 s0).trans f0
        refine gen_pure (v := .slice (some ⟨b, off, none⟩) n cap) ?_ (hK _ _ rfl (Keeps.refl _ _) hst)
        clear hK hdp hfr
        go_simp
    · intro a w' c hk hst hc hfr hdp K hK
      as_aux_lemma =>
        have E3 : a.eval (.tmp 3) = .pointer (some ⟨B0, 0, none⟩) := fr_list hfr 3 (by kernel_rfl)
        have d3 := slot_of E3
        have cl : w'.cell? ⟨B0, 0, none⟩ = some (.slice (some ⟨b, off, none⟩) n cap) := (hk.cell (p := ⟨B0, 0, none⟩) l0 s0).trans f0
        refine gen_pure (v := .slice (some ⟨b, off, none⟩) n cap) ?_ (hK _ _ rfl (Keeps.refl _ _) hst)
        clear hK hdp hfr
        go_simp
    · intro a w' c hk hst hc hfr hdp K hK
      as_aux_lemma =>
        have E4 : a.eval (.tmp 4) = .pointer (some ⟨B1, 0, none⟩) := fr_list hfr 4 (by kernel_rfl)
        have d4 := slot_of E4
        refine gen_pure (v := .pointer (some ⟨B1, 0, none⟩)) ?_ (hK _ _ rfl (Keeps.refl _ _) hst)
        clear hK hdp hfr
        go_simp
    · intro a w' c hk hst hc hfr hdp K hK
      as_aux_lemma =>
        have E15 : a.eval (.tmp 15) = .pointer (some ⟨B1, 0, none⟩) := Eq.symm (hdp 2 15 _ (by kernel_rfl) (by kernel_rfl) rfl)
        have d15 := slot_of E15
        have cl : w'.cell? ⟨B1, 0, none⟩ = some (.string ⟨code0.toArray⟩) := (hk.cell (p := ⟨B1, 0, none⟩) l1 s1).trans f1
        refine gen_pure (v := .string ⟨code0.toArray⟩) ?_ (hK _ _ rfl (Keeps.refl _ _) hst)
        clear hK hdp hfr
        go_simp
    · intro a w' c hk hst hc hfr hdp K hK
      as_aux_lemma =>
        have E14 : a.eval (.tmp 14) = .slice (some ⟨b, off, none⟩) n cap := Eq.symm (hdp 1 14 _ (by kernel_rfl) (by kernel_rfl) rfl)
        have d14 := slot_of E14
        have E16 : a.eval (.tmp 16) = .string ⟨code0.toArray⟩ := Eq.symm (hdp 3 16 _ (by kernel_rfl) (by kernel_rfl) rfl)
        have d16 := slot_of E16
        refine gen_call 56 #[.slice (some ⟨b, off, none⟩) n cap, .string ⟨code0.toArray⟩] ?_ (HAT.out w' (HKB.out.trans (Keeps.trans (by exact Keeps.of_below (ext_drew (Below.refl _ _))) hk))) ?_
        · clear hK hdp hfr; go_simp
        rintro e w'' ⟨rfl, hb9⟩
        exact ⟨_, rfl, hK _ _ rfl (Keeps.of_below hb9) (hst.below hb9)⟩
    · intro a w' c hk hst hc hfr hdp K hK
      as_aux_lemma =>
        have E13 : a.eval (.tmp 13) = .slice (some ⟨b, off, none⟩) n cap := Eq.symm (hdp 0 13 _ (by kernel_rfl) (by kernel_rfl) rfl)
        have d13 := slot_of E13
        have E17 : a.eval (.tmp 17) = .int .i64 (kk : Nat) := Eq.symm (hdp 4 17 _ (by kernel_rfl) (by kernel_rfl) rfl)
        have d17 := slot_of E17
        refine gen_pure (v := .pointer (some ⟨b, off + kk * 4, none⟩)) ?_ (hK _ _ rfl (Keeps.refl _ _) hst)
        clear hK hdp hfr
        go_simp
    · intro a w' c hk hst hc hfr hdp K hK
      as_aux_lemma =>
        have E18 : a.eval (.tmp 18) = .pointer (some ⟨b, off + kk * 4, none⟩) := Eq.symm (hdp 5 18 _ (by kernel_rfl) (by kernel_rfl) rfl)
        have d18 := slot_of E18
        obtain ⟨q0, q1, q2, q3⟩ := HKC.out w' (HKB.out.trans (Keeps.trans (by exact Keeps.of_below (ext_drew (Below.refl _ _))) hk))
        refine gen_pure (v := .agg #[.string ⟨code.toArray⟩, .string ⟨abroad.toArray⟩, .string ⟨trunk.toArray⟩, .slice aa an ac]) ?_ (hK _ _ rfl (Keeps.refl _ _) hst)
        clear hK hdp hfr
        go_simp
    · intro a w' c hk hst hc hfr hdp K hK
      as_aux_lemma =>
        refine gen_box (p := (fun (w9 : World) (v : Value) => ∃ b, v = .pointer (some ⟨b, 0, none⟩) ∧ W0.heap.size ≤ b ∧ w9.heap[b]? = some (.cells #[.string ⟨#[]⟩, .string ⟨#[]⟩, .string ⟨#[]⟩, .slice none 0 0] 68))) #[.string ⟨#[]⟩, .string ⟨#[]⟩, .string ⟨#[]⟩, .slice none 0 0] 68 ?_ (fun w9 hk9 => ⟨w'.heap.size, rfl, (by have := hk.size; simp at this ⊢; omega), (hk9.block w'.heap.size (by simp) (Nat.ne_of_gt hst.lt)).trans (heap_alloc_new _ _)⟩) hst hK
        clear hK hdp hfr
        go_simp
    intro w8 hk8 hst8
    rintro _ - _ - _ - _ - _ - _ - _ rfl x7 p7
    simp only [ForVals, Act.put, List.setIfInBounds_toArray, List.set_cons_zero, List.set_cons_succ, List.drop_succ_cons, List.drop_zero]
    obtain ⟨C, rfl, hC, hb8⟩ := p7 w8 (Keeps.refl _ _)
    have kd : Keeps S W0 w8 := Keeps.trans (by exact Keeps.of_below (ext_drew (Below.refl _ _))) hk8
    have q0 := (block_cell hb8 0).trans (show _ = some (.string ⟨#[]⟩) from rfl)
    have q1 := (block_cell hb8 1).trans (show _ = some (.string ⟨#[]⟩) from rfl)
    have q2 := (block_cell hb8 2).trans (show _ = some (.string ⟨#[]⟩) from rfl)
    have q3 := (block_cell hb8 3).trans (show _ = some (.slice none 0 0) from rfl)
    have r0 := block_fro hb8 0
    have r1 := block_fro hb8 1
    have r2 := block_fro hb8 2
    have r3 := block_fro hb8 3
    have Dl : C < w8.heap.size := (Array.getElem?_eq_some_iff.1 hb8).1
    have HE1 : Hid (((((((w8.setCell ⟨C, 0, none⟩ (.string ⟨code.toArray⟩)).setCell ⟨C, 1, none⟩ (.string ⟨abroad.toArray⟩)).setCell ⟨C, 2, none⟩ (.string ⟨trunk.toArray⟩)).setCell ⟨C, 3, none⟩ (.slice aa an ac)).cell? ⟨C, 0, none⟩ = some (.string ⟨code.toArray⟩)) ∧ ((((w8.setCell ⟨C, 0, none⟩ (.string ⟨code.toArray⟩)).setCell ⟨C, 1, none⟩ (.string ⟨abroad.toArray⟩)).setCell ⟨C, 2, none⟩ (.string ⟨trunk.toArray⟩)).setCell ⟨C, 3, none⟩ (.slice aa an ac)).cell? ⟨C, 1, none⟩ = some (.string ⟨abroad.toArray⟩) ∧ ((((w8.setCell ⟨C, 0, none⟩ (.string ⟨code.toArray⟩)).setCell ⟨C, 1, none⟩ (.string ⟨abroad.toArray⟩)).setCell ⟨C, 2, none⟩ (.string ⟨trunk.toArray⟩)).setCell ⟨C, 3, none⟩ (.slice aa an ac)).cell? ⟨C, 2, none⟩ = some (.string ⟨trunk.toArray⟩)) ∧ C < ((((w8.setCell ⟨C, 0, none⟩ (.string ⟨code.toArray⟩)).setCell ⟨C, 1, none⟩ (.string ⟨abroad.toArray⟩)).setCell ⟨C, 2, none⟩ (.string ⟨trunk.toArray⟩)).setCell ⟨C, 3, none⟩ (.slice aa an ac)).heap.size) := by
      have m1 := (World.cell?_setCell_other w8 ⟨C, 0, none⟩ ⟨C, 1, none⟩ (.string ⟨code.toArray⟩) (by simp)).trans q1
      have m2 := (World.cell?_setCell_other w8 ⟨C, 0, none⟩ ⟨C, 2, none⟩ (.string ⟨code.toArray⟩) (by simp)).trans q2
      refine ⟨⟨?_, ?_, ?_⟩, by simpa using Dl⟩
      · exact (World.cell?_setCell_other _ _ _ _ (by simp)).trans ((World.cell?_setCell_other _ _ _ _ (by simp)).trans ((World.cell?_setCell_other _ _ _ _ (by simp)).trans (World.cell?_setCell_same _ _ _ q0)))
      · exact (World.cell?_setCell_other _ _ _ _ (by simp)).trans ((World.cell?_setCell_other _ _ _ _ (by simp)).trans (World.cell?_setCell_same _ _ _ m1))
      · exact (World.cell?_setCell_other _ _ _ _ (by simp)).trans (World.cell?_setCell_same _ _ _ ((World.cell?_setCell_other _ _ _ _ (by simp)).trans m2))
    have HE2 : Hid (Keeps S W0 ((((w8.setCell ⟨C, 0, none⟩ (.string ⟨code.toArray⟩)).setCell ⟨C, 1, none⟩ (.string ⟨abroad.toArray⟩)).setCell ⟨C, 2, none⟩ (.string ⟨trunk.toArray⟩)).setCell ⟨C, 3, none⟩ (.slice aa an ac))) := (((kd.setCell_new (p := ⟨C, 0, none⟩) hC _).setCell_new (p := ⟨C, 1, none⟩) hC _).setCell_new (p := ⟨C, 2, none⟩) hC _).setCell_new (p := ⟨C, 3, none⟩) hC _
    have hSC : S + 1 ≤ C := by omega
    have HE3 : Hid (StreamOk ((((w8.setCell ⟨C, 0, none⟩ (.string ⟨code.toArray⟩)).setCell ⟨C, 1, none⟩ (.string ⟨abroad.toArray⟩)).setCell ⟨C, 2, none⟩ (.string ⟨trunk.toArray⟩)).setCell ⟨C, 3, none⟩ (.slice aa an ac)) S k) := (hst8.mono (by simp)).upto (((((Below.refl (S + 1) w8).setCell hSC _).setCell hSC _).setCell hSC _).setCell hSC _)
    clear hk8 hst8 kd p7 hb8
    go_wp2_with fail
    go_meet
    exact ⟨C, rfl, HE1, HE2, HE3⟩
  case rest =>
    obtain ⟨C, rfl, HC, HKC0, HSC⟩ := hcut
    obtain ⟨wb, rfl⟩ : ∃ wb : World, wb = wc := ⟨_, rfl⟩
    have HBB : Hid (∀ W, Below wb.heap.size wb W → (W.cell? ⟨B0, 0, none⟩ = some (.slice (some ⟨b, off, none⟩) n cap) ∧ W.cell? ⟨B1, 0, none⟩ = some (.string ⟨code0.toArray⟩) ∧ W.cell? ⟨B1, 1, none⟩ = some (.string ⟨area.toArray⟩) ∧ W.cell? ⟨B2, 0, none⟩ = some (.string ⟨s.toArray⟩)) ∧ B0 < W.heap.size ∧ B1 < W.heap.size ∧ B2 < W.heap.size) := fun W hW => HBX.out W (HKC0.out.trans (Keeps.of_below hW))
    have HCC : Hid (∀ W, Below wb.heap.size wb W → (W.cell? ⟨C, 0, none⟩ = some (.string ⟨code.toArray⟩) ∧ W.cell? ⟨C, 1, none⟩ = some (.string ⟨abroad.toArray⟩) ∧ W.cell? ⟨C, 2, none⟩ = some (.string ⟨trunk.toArray⟩)) ∧ C < W.heap.size) := fun W hW => ⟨⟨(hW.cell (p := ⟨C, 0, none⟩) HC.out.2).trans HC.out.1.1, (hW.cell (p := ⟨C, 1, none⟩) HC.out.2).trans HC.out.1.2.1, (hW.cell (p := ⟨C, 2, none⟩) HC.out.2).trans HC.out.1.2.2⟩, Nat.lt_of_lt_of_le HC.out.2 hW.size⟩
    have HRB : Hid (∀ W, Below wb.heap.size wb W → CtryRow W (some ⟨b, off, none⟩) n l) := fun W hW => HR.out W (HKB.out.trans (HKC0.out.trans (Keeps.of_below hW)))
    have HEND : Hid (∀ W, Below wb.heap.size wb W → Keeps S w W ∧ StreamOk W S k) := fun W hW => ⟨HKB.out.trans (HKC0.out.trans (Keeps.of_below hW)), HSC.out.below hW⟩
    have HWC : Hid (w.heap.size ≤ wb.heap.size) := Nat.le_trans HWZ.out HKC0.out.size
    clear HC HKC0 HSC HBX HKB HSB HAT HKC HBW f0 f1 f2 f3 l0 l1 l2 HR HST HWZ HB0 hbw hSw s0 s1 s2
    have HTR : Hid (triesL l ⟨code, abroad, trunk, aa, an, ac, areas⟩ area s = (abroad ++ s.drop 1) :: (if (splitP l s).code = code then (trunk ++ ((splitP l s).area ++ (splitP l s).rest)) :: (if area = (splitP l s).area ∧ trunk ≠ [] then [(splitP l s).rest] else []) else [])) := rfl
    have HFLT := Lib.hid (tries_filter HE0.out HIN.out HSO.out)
    have HSPL := Lib.hid (tries_split HE0.out HIN.out HSO.out)
    have HRC : Hid (Lib.hasPrefix s (43 :: code) = decide ((splitP l s).code = code)) := ref_code HE0.out HIN.out HSO.out
    have HRN : Hid ((splitP l s).code = code → s.drop (43 :: code).length = (splitP l s).area ++ (splitP l s).rest) := ref_nat HE0.out HIN.out HSO.out
    have HRA : Hid ((splitP l s).code = code → ((Lib.hasPrefix ((splitP l s).area ++ (splitP l s).rest) area = true ∧ area ≠ []) ↔ area = (splitP l s).area)) := ref_area HE0.out HIN.out HSO.out
    have hsm : ∃ m, s = 43 :: m := by
      obtain ⟨i, j, so⟩ := split_ok HSO.out
      exact ⟨_, so.form⟩
    have hxl : (splitP l s).area.length ≤ 100 ∧ (splitP l s).rest.length ≤ s.length := by
      have := spl_len (HRB.out wb (Below.refl _ _)) s
      exact ⟨this.2.1, this.2.2⟩
    obtain ⟨x2l, x3l⟩ := hxl
    obtain ⟨m, rfl⟩ := hsm
    simp only [List.drop_succ_cons, List.drop_zero] at HTR
    have hml : m.length + 1 ≤ 500 := by simpa using hs
    have x3l' : (splitP l (43 :: m)).rest.length ≤ 500 := by simp only [List.length_cons] at x3l; omega
    generalize triesL l ⟨code, abroad, trunk, aa, an, ac, areas⟩ area (43 :: m) = T at HTR HFLT HSPL
    have HEXT : Hid (((⟨(43 :: m).toArray⟩ : ByteArray)).extract 1 (m.length + 1) = ⟨m.toArray⟩) := (extract_drop (43 :: m) 1)
    obtain ⟨i0, hi, hz0, hz1, hz2⟩ := info_parts Tryz.infoStr
    clear x3l hs
    generalize (splitP l (43 :: m)).area = x2 at HTR HRN HRA x2l
    generalize (splitP l (43 :: m)).rest = x3 at HTR HRN HRA x3l'
    generalize (splitP l (43 :: m)).code = x1 at HTR HRC HRN HRA
    as_aux_lemma =>
      go_wp2_with fail
      have hS0 : (fun W => W.cell? ⟨C, 1, none⟩ = some (.string ⟨abroad.toArray⟩) ∧ W.cell? ⟨B2, 0, none⟩ = some (.string ⟨(43 :: m).toArray⟩)) wb.drew := ⟨(HCC.out _ (ext_drew (Below.refl _ _))).1.2.1, (HBB.out _ (ext_drew (Below.refl _ _))).1.2.2.2⟩
      have HS0 := Lib.hid hS0
      clear hS0
      refine region_seqI (S := fun W => W.cell? ⟨C, 1, none⟩ = some (.string ⟨abroad.toArray⟩) ∧ W.cell? ⟨B2, 0, none⟩ = some (.string ⟨(43 :: m).toArray⟩)) [(true, 0), (true, 1), (true, 2), (true, 3), (true, 4), (false, 5), (true, 6)] (by kernel_rfl) (by kernel_rfl) rfl (by kernel_rfl) HS0.out ?_
      simp only [seqOps, List.getD_cons_zero, List.getD_cons_succ]
      refine seqI_take (v := .pointer (some ⟨C, 1, none⟩)) rfl (fun W hW => by obtain ⟨m0, m1⟩ := hW; go_simp) (fun _ _ _ h => h) ?_
      simp only [Act.put, List.setIfInBounds_toArray, List.set_cons_zero, List.set_cons_succ]
      refine seqI_take (v := .string ⟨abroad.toArray⟩) rfl (fun W hW => by obtain ⟨m0, m1⟩ := hW; go_simp) (fun _ _ _ h => h) ?_
      simp only [Act.put, List.setIfInBounds_toArray, List.set_cons_zero, List.set_cons_succ]
      refine seqI_take (v := .string ⟨(43 :: m).toArray⟩) rfl (fun W hW => by obtain ⟨m0, m1⟩ := hW; go_simp) (fun _ _ _ h => h) ?_
      simp only [Act.put, List.setIfInBounds_toArray, List.set_cons_zero, List.set_cons_succ]
      refine seqI_take (v := .string ⟨m.toArray⟩) rfl (fun W hW => by obtain ⟨m0, m1⟩ := hW; rw [← HEXT.out]; go_simp <;> (intro h; omega)) (fun _ _ _ h => h) ?_
      simp only [Act.put, List.setIfInBounds_toArray, List.set_cons_zero, List.set_cons_succ]
      refine seqI_take (v := .string ⟨(abroad ++ m).toArray⟩) rfl (fun W hW => by obtain ⟨m0, m1⟩ := hW; rw [← cat_str abroad m]; go_simp <;> omega) (fun _ _ _ h => h) ?_
      simp only [Act.put, List.setIfInBounds_toArray, List.set_cons_zero, List.set_cons_succ]
      refine seqI_do rfl (wp_made (v := .slice (some ⟨wb.heap.size, 0, none⟩) 1 1) (w' := wb.drew.alloc (.cells #[.string ⟨(abroad ++ m).toArray⟩] 9)) (by go_simp) ⟨?_, ?_⟩)
      · exact ⟨(HCC.out _ (ext_alloc (ext_drew (Below.refl _ _)))).1.2.1, (HBB.out _ (ext_alloc (ext_drew (Below.refl _ _)))).1.2.2.2⟩
      simp only [Act.put, List.setIfInBounds_toArray, List.set_cons_zero, List.set_cons_succ]
      refine seqI_take (v := .slice (some ⟨wb.heap.size, 0, none⟩) 1 1) rfl (fun W hW => by obtain ⟨m0, m1⟩ := hW; go_simp) (fun _ _ _ h => h) ?_
      simp only [Act.put, List.setIfInBounds_toArray, List.set_cons_zero, List.set_cons_succ]
      refine seqI_nil ?_
      have HO1 : Hid ((wb.drew.alloc (.cells #[.string ⟨(abroad ++ m).toArray⟩] 9)).ownsRow wb.heap.size 9 1 (.slice (some ⟨wb.heap.size, 0, none⟩) 1 1) 1 ([abroad ++ m].map encS)) := own_lit1 wb.drew (abroad ++ m) wb.heap.size (Nat.le_refl _)
      have HB7 : Hid (Below wb.heap.size wb (wb.drew.alloc (.cells #[.string ⟨(abroad ++ m).toArray⟩] 9))) := ext_alloc (ext_drew (Below.refl _ _))
      generalize (World.alloc wb.drew _) = W7 at HO1 HB7 ⊢
      clear HS0
      obtain ⟨⟨p0, p1, p2⟩, hCW⟩ := HCC.out _ HB7.out
      obtain ⟨⟨f0, f1, f2, f3⟩, l0, l1, l2⟩ := HBB.out _ HB7.out
      have HCP := Lib.hid (fun W => cutPrefix_l (43 :: m) (43 :: code) W)
      as_aux_lemma =>
        go_upto_if 34 with (rw [show ((⟨#[43]⟩ : ByteArray) ++ (⟨code.toArray⟩ : ByteArray)) = ⟨(43 :: code).toArray⟩ from cat_str [43] code]; refine (HCP.out _).mono ?_; rintro e w' ⟨rfl, rfl⟩)
        have HNT0 : Hid (x1 = code → Lib.trimPrefix (43 :: m) (43 :: code) = x2 ++ x3) := fun hco => by rw [trim_drop (by rw [HRC.out, decide_eq_true hco]), HRN.out hco]
        generalize Lib.trimPrefix (43 :: m) (43 :: code) = xx at HNT0 ⊢
        generalize Lib.hasPrefix (43 :: m) (43 :: code) = pc at HRC ⊢
        go_cut [8] (fun v wx => Hid (wx.ownsRow wb.heap.size 9 1 v T.length (T.map encS)) ∧ Hid (Below wb.heap.size wb wx))
        case first =>
          cases pc
          · have hco : ¬ x1 = code := by have h9 := HRC.out; exact of_decide_eq_false h9.symm
            have HT : Hid (T = [abroad ++ m]) := by show _ = _; rw [HTR.out, if_neg hco]
            clear hco
            as_aux_lemma =>
              go_wp2_with fail
              go_meet
              exact ⟨by rw [HT.out]; exact HO1.out, HB7⟩
          · have hco : x1 = code := by have h9 := HRC.out; exact of_decide_eq_true h9.symm
            have hxe := HNT0.out hco
            have HIFF : Hid ((Lib.hasPrefix xx area = true ∧ area ≠ []) ↔ area = x2) := by rw [hxe]; exact HRA.out hco
            have HT2 : Hid (¬ (area = x2 ∧ trunk ≠ []) → T = [abroad ++ m, trunk ++ xx]) := fun h => by rw [HTR.out, if_pos hco, if_neg h, hxe]
            have HT3 : Hid ((area = x2 ∧ trunk ≠ []) → T = [abroad ++ m, trunk ++ xx, x3]) := fun h => by rw [HTR.out, if_pos hco, if_pos h, hxe]
            have HCA := Lib.hid (fun W => cutPrefix_l xx area W)
            have HTRIM : Hid (area = x2 → Lib.trimPrefix xx area = x3) := fun h => by
              rw [hxe]
              subst h
              rw [trim_drop (pre_append _ _), List.drop_left]
            have HOA := Lib.hid (HO1.out.alloc (.cells #[.string (⟨trunk.toArray⟩ ++ ⟨xx.toArray⟩ : ByteArray)] 9))
            have HRW : Hid (∀ b, (Value.slice (some ⟨wb.heap.size, 0, none⟩) 1 1).ownBlock = some b → wb.heap.size ≤ b) := fun b e => (HO1.out.lt b e).1
            have HMAP : Hid (([abroad ++ m].map encS ++ [.string (⟨trunk.toArray⟩ ++ ⟨xx.toArray⟩ : ByteArray)] : List Value) = [abroad ++ m, trunk ++ xx].map encS) := by
              show _ = _
              rw [cat_str]
              rfl
            have hxx : xx.length ≤ 700 := by rw [hxe, List.length_append]; omega
            clear hxe hco HTR HRC HRN HRA HNT0
            as_aux_lemma =>
              go_wp2_with (at_builtin; refine wpList_append_own _ rfl (.tmp 35) (.tmp 40) 46 rfl wb.heap.size 9 i0 (.string ⟨#[]⟩) 1 16 Tryz.underlying46 hi hz0 hz1 hz2 rfl (by decide) _ 1 _ rfl HOA.out ⟨W7.heap.size, 0, none⟩ 1 1 [.string (⟨trunk.toArray⟩ ++ ⟨xx.toArray⟩ : ByteArray)] rfl rfl (news_one (by go_simp)) (by simp [Value.oneCell']) (by simp only [maxLen]; omega) (by omega) (by have := HB7.out.size; simp; omega) ?_; intro v6 w6 hown6 hgr6 _; have HUP : Hid (Below wb.heap.size W7 w6) := upto_grown hgr6 HB7.out.size HRW.out; have HB8 := Lib.hid (HB7.out.trans HUP.out); have HO2 : Hid (w6.ownsRow wb.heap.size 9 1 v6 2 ([abroad ++ m, trunk ++ xx].map encS)) := (by rw [HMAP.out] at hown6; exact hown6); have HRW2 : Hid (∀ b, v6.ownBlock = some b → wb.heap.size ≤ b) := (fun b e => (HO2.out.lt b e).1); clear hown6 hgr6 HUP p0 p1 p2 hCW f0 f1 f2 f3 l0 l1 l2; obtain ⟨⟨p0, p1, p2⟩, hCW⟩ := HCC.out _ HB8.out; obtain ⟨⟨f0, f1, f2, f3⟩, l0, l1, l2⟩ := HBB.out _ HB8.out)
              refine (HCA.out _).mono ?_
              rintro e w' ⟨rfl, rfl⟩
              have HOX := HO2
              generalize hpb : Lib.hasPrefix xx area = pb at HIFF ⊢
              generalize hrx : Lib.trimPrefix xx area = rx at HTRIM ⊢
              clear hpb hrx
              cases pb
              · have HT : Hid (T = [abroad ++ m, trunk ++ xx]) := HT2.out (fun h => by have := (HIFF.out.2 h.1).1; cases this)
                as_aux_lemma =>
                  go_wp2_with fail
                  go_meet
                  exact ⟨by rw [HT.out]; exact HO2.out, HB8⟩
              · by_cases hae : area = []
                · subst hae
                  have HT : Hid (T = [abroad ++ m, trunk ++ xx]) := HT2.out (fun h => (HIFF.out.2 h.1).2 rfl)
                  as_aux_lemma =>
                    go_wp2_with fail
                    go_meet
                    exact ⟨by rw [HT.out]; exact HO2.out, HB8⟩
                · have hax : area = x2 := HIFF.out.1 ⟨rfl, hae⟩
                  obtain rfl : rx = x3 := HTRIM.out hax
                  have HAX := Lib.hid hax
                  clear hax
                  obtain ⟨a0, ar, har⟩ : ∃ a0 ar, area = a0 :: ar := by
                    cases area with
                    | nil => exact absurd rfl hae
                    | cons a0 ar => exact ⟨a0, ar, rfl⟩
                  rw [har] at f2
                  clear hae
                  cases trunk with
                  | nil =>
                    have HT : Hid (T = [abroad ++ m, [] ++ xx]) := HT2.out (fun h => h.2 rfl)
                    clear har
                    as_aux_lemma =>
                      go_wp2_with fail
                      go_meet
                      exact ⟨by rw [HT.out]; exact HO2.out, HB8⟩
                  | cons t0 tr =>
                    have HT : Hid (T = [abroad ++ m, (t0 :: tr) ++ xx, rx]) := HT3.out ⟨HAX.out, by simp⟩
                    clear har
                    as_aux_lemma =>
                      go_wp2_with (at_builtin; refine wpList_append_own _ rfl (.tmp 60) (.tmp 62) 46 rfl wb.heap.size 9 i0 (.string ⟨#[]⟩) 1 16 Tryz.underlying46 hi hz0 hz1 hz2 rfl (by decide) _ 2 _ rfl (HO2.out.alloc (.cells #[.string ⟨rx.toArray⟩] 9)) ⟨w6.heap.size, 0, none⟩ 1 1 [.string ⟨rx.toArray⟩] rfl rfl (news_one (by go_simp)) (by simp [Value.oneCell']) (by simp only [maxLen]; omega) (by omega) (by have := HB8.out.size; simp; omega) ?_; intro v9 w9 hown9 hgr9 _; have HUP : Hid (Below wb.heap.size w6 w9) := upto_grown hgr9 HB8.out.size HRW2.out; have HB9 := Lib.hid (HB8.out.trans HUP.out); have HO3 : Hid (w9.ownsRow wb.heap.size 9 1 v9 3 ([abroad ++ m, (t0 :: tr) ++ xx, rx].map encS)) := hown9; clear hown9 hgr9 HUP)
                      go_meet
                      exact ⟨by rw [HT.out]; exact HO3.out, HB9⟩
        case rest =>
          obtain ⟨HO, HBT⟩ := hcut
          clear p0 p1 p2 hCW f0 f1 f2 f3 l0 l1 l2 HO1 HB7
          obtain ⟨ys, z, hyz, hys⟩ := HSPL.out
          have hT3 : T.length ≤ 3 := by
            rw [HTR.out]
            split
            · split <;> simp
            · simp
          have HTL : Hid (∀ j, (T.getD j []).length ≤ 1000) := fun j => by
            have hall : ∀ x ∈ T, x.length ≤ 1000 := by
              rw [HTR.out]
              intro x hx
              rcases List.mem_cons.1 hx with rfl | hx
              · rw [List.length_append]; omega
              · split at hx
                · rcases List.mem_cons.1 hx with rfl | hx
                  · simp only [List.length_append]; omega
                  · split at hx
                    · rcases List.mem_cons.1 hx with rfl | hx
                      · omega
                      · cases hx
                    · cases hx
                · cases hx
            rcases Nat.lt_or_ge j T.length with h | h
            · rw [show T.getD j [] = T[j] by simp [h]]; exact hall _ (List.getElem_mem h)
            · simp [List.getElem?_eq_none h]
          have hN : T.length = ys.length + 1 := by rw [hyz]; simp
          rw [hN] at HO hT3
          obtain ⟨g, cg, rfl, hg1, hg2⟩ := own_row1 HO.out
          have HPRED : Hid (PredS 72 #[.pointer (some ⟨B0, 0, none⟩), .pointer (some ⟨B1, 0, none⟩), .pointer (some ⟨B2, 0, none⟩)] (lostP l ⟨code, abroad, trunk, aa, an, ac, areas⟩ area (43 :: m)) (ys ++ [z]) wc) := by
            refine ⟨enters_of Tryz.func72 (by kernel_rfl) rfl, fun W j hj hW => ?_⟩
            have hbw2 : Below wb.heap.size wb W := HBT.out.trans (hW.mono HBT.out.size)
            obtain ⟨⟨f0, f1, f2, f3⟩, l0, l1, l2⟩ := HBB.out W hbw2
            have hjl := HTL.out j
            rw [hyz] at hjl
            exact lost_any l b off n cap hcap hne HE0.out _ code0 area (43 :: m) _ HFC.out ha hjl B0 B1 B2 W (HRB.out W hbw2) f0 f1 f2 f3 l0 l1 l2
          have HDEL := Lib.hid (delS_any 72 _ (lostP l ⟨code, abroad, trunk, aa, an, ac, areas⟩ area (43 :: m)) wc wb.heap.size g ys.length cg ys z (by rw [← hyz]; exact HO.out) (by omega) hg2 hg1 HBT.out.size HPRED.out (fun y hy => by unfold lostP; rw [hys y hy]; simp))
          have HKE : Hid (keptS (lostP l ⟨code, abroad, trunk, aa, an, ac, areas⟩ area (43 :: m)) (ys ++ [z]) = waysL l ⟨code, abroad, trunk, aa, an, ac, areas⟩ area (43 :: m)) := by
            show List.filter _ _ = _
            rw [← hyz, ← HFLT.out]
            congr 1
            funext x
            simp [lostP]
          have hwl : (waysL l ⟨code, abroad, trunk, aa, an, ac, areas⟩ area (43 :: m)).length ≤ 3 := by
            rw [← HFLT.out]
            refine Nat.le_trans (List.length_filter_le _ _) ?_
            omega
          have hw1 : ∃ q, (waysL l ⟨code, abroad, trunk, aa, an, ac, areas⟩ area (43 :: m)).length = q + 1 := by
            refine ⟨(waysL l ⟨code, abroad, trunk, aa, an, ac, areas⟩ area (43 :: m)).length - 1, ?_⟩
            unfold waysL
            simp
          obtain ⟨q, hq⟩ := hw1
          have HQ := Lib.hid hq
          rw [HKE.out] at HDEL
          rw [hq] at hwl
          clear hq hg1 hg2 hyz hys HPRED HKE HFLT HTL HTR HRC HRN HRA HNT0 HSPL hN HO
          generalize hWL : waysL l ⟨code, abroad, trunk, aa, an, ac, areas⟩ area (43 :: m) = WL at HDEL HQ ⊢
          have HWL := Lib.hid hWL
          clear hWL
          as_aux_lemma =>
            go_wp2_with fail
            refine HDEL.out.mono ?_
            rintro e w8 ⟨v8, rfl, ho8, hb8⟩
            rw [HQ.out] at ho8
            obtain ⟨g2, c2, rfl, hg3, hg4⟩ := own_row1 ho8
            have HSRT := Lib.hid (stable_any 73 isLenCmp2 w8 wb.heap.size g2 (q + 1) c2 WL ho8 (by omega))
            have HB8 : Hid (Below wb.heap.size wb w8) := HBT.out.trans hb8
            clear ho8 hb8 hg3 hg4 HDEL
            go_wp2_with fail
            refine HSRT.out.mono ?_
            rintro e w9 ⟨rfl, ho9, hb9⟩
            have HO9 := Lib.hid ho9
            have HF := Lib.hid (HEND.out w9 (HB8.out.trans hb9))
            clear ho9 hb9
            go_wp2_with fail
            go_ret
            refine ⟨_, rfl, ?_, HF.out.1, HF.out.2⟩
            rw [HWL.out, sortW_len, HQ.out]
            exact own_le HO9.out HWC.out
end Go.Proofs.YthajppcmmmkfcaaGreatDoor

set_option linter.unusedVariables false
set_option linter.unusedSimpArgs false
namespace Go.Proofs.YthajppcmmmkfcaaGreatDoor
open Go.RowKit

theorem read_key {c : UInt8} {t o : List UInt8} (h : keyB c ≠ 0) : readB (c :: t) o = readB t (o ++ [keyB c]) := by
  have hs : sepB c = false := by
    cases hh : sepB c with
    | false => rfl
    | true => exact absurd (sep_key c hh).1 h
  rw [readB, hs]
  simp [h]
theorem read_plus {t : List UInt8} : readB (43 :: t) [] = readB t [43] := by
  have hs : sepB 43 = false := by decide
  have hk : keyB 43 = 0 := by decide
  rw [readB, hs, hk]
  simp
theorem read_sep {c : UInt8} {t o : List UInt8} (h : sepB c = true) : readB (c :: t) o = readB t o := by
  rw [readB, h]; simp
theorem read_bad {c : UInt8} {t o : List UInt8} (hk : keyB c = 0) (hp : ¬ (c = 43 ∧ o = [])) (hs : sepB c = false) : readB (c :: t) o = none := by
  rw [readB, hs, hk, if_neg hp]
  simp
theorem drop_at {s : List UInt8} {k : Nat} {c : UInt8} (hk : k < s.length) (hc : s.getD k 0 = c) : s.drop k = c :: s.drop (k + 1) := by
  rw [List.drop_eq_getElem_cons hk]
  congr 1
  simpa [hk] using hc
theorem sep_l (c : UInt8) (w : World) : Calls Tryz.prog 76 #[.string ⟨#[32, 45, 46, 47, 40, 41]⟩, .int .u8 c.toNat] w fun e w' => ∃ r : Int, e = .returned (.int .i64 r) ∧ (sepB c = true → 0 ≤ r) ∧ (sepB c = false → r < 0) ∧ w' = w := by
  refine (Tryz.strings_IndexByte ⟨#[32, 45, 46, 47, 40, 41]⟩ c.toNat w).mono ?_
  rintro e w' ⟨rfl, rfl⟩
  have := all_bytes (p := fun c => (!(sepB c) || decide (0 ≤ Lib.indexByte [32, 45, 46, 47, 40, 41] ((c.toNat : Int).toNat.toUInt8))) && (sepB c || decide (Lib.indexByte [32, 45, 46, 47, 40, 41] ((c.toNat : Int).toNat.toUInt8) < 0))) (by decide +kernel) c
  simp only [Bool.and_eq_true, Bool.or_eq_true, Bool.not_eq_true', decide_eq_true_eq] at this
  exact ⟨_, rfl, fun h => this.1.resolve_left (by rw [h]; decide), fun h => this.2.resolve_left (by rw [h]; decide), rfl⟩
end Go.Proofs.YthajppcmmmkfcaaGreatDoor

set_option linter.unusedVariables false
set_option linter.unusedSimpArgs false
namespace Go.Proofs.YthajppcmmmkfcaaGreatDoor
open Go.RowKit

theorem own_sl {w : World} {base : Nat} {e : TypeId} {size : Nat} {v : Value} {n : Nat} {xs : List Value} (h : w.ownsRow base e size v n xs) : ∃ a c, v = .slice a n c := by
  rcases h.2 with ⟨rfl, rfl⟩ | ⟨g, cap, cur, rfl, _⟩
  · exact ⟨none, 0, rfl⟩
  · exact ⟨_, _, rfl⟩
theorem cells_snoc (o : List UInt8) (c : UInt8) : cellsB (o ++ [c]) = cellsB o ++ [.int .u8 c.toNat] := by simp [cellsB]

set_option maxRecDepth 100000 in
set_option maxHeartbeats 4000000 in
theorem formRead_any (w : World) (a : Option Addr) (n cap : Nat) (l : List Ctry) (hr : CtryRow w a n l) (hcap : n ≤ cap) (hne : 1 ≤ n) (hE : planErr l = 0) (c0 : Ctry) (code0 area s : List UInt8) (hfc : (l.find? fun c => c.code == code0) = some c0) (ha : area.length ≤ 100) (hs : s.length ≤ 1000) :
    Calls Tryz.prog 31 #[.slice a n cap, .agg #[.string ⟨code0.toArray⟩, .string ⟨area.toArray⟩], .string ⟨s.toArray⟩] w (StrPost (readP l c0 area s) w) := by
  have HR := Lib.hid hr
  have HDEF : Hid (readP l c0 area s = if 60 < s.length then ((2 : Int), ([] : List UInt8)) else match readB s [] with
    | none => (9, [])
    | some [] => (9, [])
    | some (x :: n) => if x = 43 then (if (splitP l (x :: n)).err ≠ 0 then ((splitP l (x :: n)).err, []) else (0, x :: n)) else if 30 < (x :: n).length then (2, []) else reachP l c0 area (x :: n)) := rfl
  generalize readP l c0 area s = R at HDEF ⊢
  have HE0 := Lib.hid hE
  have HFC := Lib.hid hfc
  obtain ⟨i0, hi, hz0, hz1, hz2⟩ := info_parts Tryz.infoByte
  clear hr hE hfc
  by_cases hbig : 60 < s.length
  · have HF : Hid (R = (2, [])) := by show _ = _; rw [HDEF.out, if_pos hbig]
    go_enter Tryz.func31, Tryz.ntmps31
    go_wp2_with fail
    go_ret2
    exact ⟨by rw [HF.out]; rfl, (by (try show Below _ _ _); repeat (with_reducible first | exact Below.refl _ _ | assumption | exact Hid.out (by assumption) | refine ext_alloc ?_ | refine ext_drewN ?_ | refine ext_drew ?_ | refine ext_setCell ?_ (Nat.le_refl _) | refine ext_setCell ?_ (Nat.le_succ _) | refine ext_trans ?_ (by assumption) | (refine ext_setCell ?_ (by simp)) | (refine ext_setCell ?_ (by simp at *; omega))))⟩
  · have HD2 : Hid (R = match readB s [] with
      | none => (9, [])
      | some [] => (9, [])
      | some (x :: n) => if x = 43 then (if (splitP l (x :: n)).err ≠ 0 then ((splitP l (x :: n)).err, []) else (0, x :: n)) else if 30 < (x :: n).length then (2, []) else reachP l c0 area (x :: n)) := by show _ = _; rw [HDEF.out, if_neg hbig]
    clear HDEF
    have hcv := run_bytes_of_string (P := Tryz.prog) (w.alloc (.cells #[.string ⟨code0.toArray⟩, .string ⟨area.toArray⟩] 29)) 9 108 5 ⟨s.toArray⟩ Tryz.underlying9 Tryz.underlying108 Tryz.underlying5
    go_enter Tryz.func31, Tryz.ntmps31
    go_wp2_with fail
    clear hcv
    have HB0 : Hid (Below w.heap.size w (w.alloc (.cells #[.string ⟨code0.toArray⟩, .string ⟨area.toArray⟩] 29))) := ext_alloc (Below.refl _ _)
    have he0 : (w.alloc (.cells #[.string ⟨code0.toArray⟩, .string ⟨area.toArray⟩] 29)).cell? ⟨w.heap.size, 0, none⟩ = some (.string ⟨code0.toArray⟩) := by go_simp
    have he1 : (w.alloc (.cells #[.string ⟨code0.toArray⟩, .string ⟨area.toArray⟩] 29)).cell? ⟨w.heap.size, 1, none⟩ = some (.string ⟨area.toArray⟩) := by go_simp
    have hzH : w.heap.size < (w.alloc (.cells #[.string ⟨code0.toArray⟩, .string ⟨area.toArray⟩] 29)).heap.size := by simp
    have HWS : Hid ((w.alloc (.cells #[.string ⟨code0.toArray⟩, .string ⟨area.toArray⟩] 29)).heap.size = w.heap.size + 1) := by show _ = _; simp
    generalize World.alloc w _ = W1 at HB0 he0 he1 hzH HWS ⊢
    have HE01 := Lib.hid (And.intro he0 he1)
    have HZH := Lib.hid hzH
    clear he0 he1 hzH
    go_loopw [8, 21] (fun v i wr => ∃ (k : Nat) (o : List UInt8), k ≤ s.length ∧ i = .int .i64 k ∧ o.length ≤ k ∧ Hid (readB (s.drop k) o = readB s []) ∧ Hid (wr.ownsRow (w.heap.size + 1 + 1) 5 1 v o.length (cellsB o)) ∧ Hid (∀ j, j < s.length → wr.cell? ⟨w.heap.size + 1, j, none⟩ = some (.int .u8 (s.getD j 0).toNat)) ∧ Hid (Below W1.heap.size W1 wr) ∧ Hid (w.heap.size + 1 + 1 ≤ wr.heap.size)) (fun _ i _ => s.length - (intOf i).toNat)
    case atStart =>
      refine ⟨0, [], by omega, rfl, Nat.le_refl _, rfl, World.ownsRow_nil _ _ _ _, fun j hj => ?_, (by (try show Below _ _ _); repeat (with_reducible first | exact Below.refl _ _ | assumption | exact Hid.out (by assumption) | refine ext_alloc ?_ | refine ext_drewN ?_ | refine ext_drew ?_ | refine ext_setCell ?_ (Nat.le_refl _) | refine ext_setCell ?_ (Nat.le_succ _) | refine ext_trans ?_ (by assumption) | (refine ext_setCell ?_ (by simp)) | (refine ext_setCell ?_ (by simp at *; omega)))), by show _ ≤ _; have := HWS.out; simp; omega⟩
      have := bytesRow_at ⟨s.toArray⟩ (grownCap W1 s.length 0 5) j (by simpa using hj)
      go_simp
      rw [← HWS.out, new_cell, this]
      simp [hj]
    case round =>
      obtain ⟨k, o, hk, rfl, hol, HG, HO, HC, HB, HZ⟩ := hrel
      by_cases hlt : k < s.length
      · have c1 := HC.out k hlt
        generalize hc : s.getD k 0 = c at c1
        have HDA := Lib.hid (drop_at hlt hc)
        clear hc
        have HKEY := Lib.hid (fun w => keyOf_any c w)
        have HSEP := Lib.hid (fun w => sep_l c w)
        have hz1' := HZ.out
        have hrow := fun b e => (HO.out.lt b e).1
        have hfin : Hid (∀ (w6 : World) (v6 : Value) (x : UInt8) (w' : World) (ob : Obj), w' = wr → (wr.alloc ob).grownBy w6 v6.ownBlock → True) := fun _ _ _ _ _ _ _ => trivial
        go_wp2_with fail
        refine (HKEY.out _).mono ?_
        rintro e w' ⟨rfl, rfl⟩
        have HQ : Hid (∀ q, (keyB c).toNat = q → (keyB c).toNat = q) := fun q h => h
        generalize hq : (keyB c).toNat = q
        have HQE := Lib.hid (HQ.out q hq)
        clear hq HQ
        by_cases h0 : q = 0
        · subst h0
          have hk0 : keyB c = 0 := UInt8.toNat_inj.1 (by simpa using HQE.out)
          have HK0 := Lib.hid hk0
          clear hk0
          obtain ⟨av, cv, rfl⟩ := own_sl HO.out
          have HBADR : Hid (¬ (c = 43 ∧ o = []) → sepB c = false → R = (9, [])) := fun h1 h2 => by
            rw [HD2.out, ← HG.out, HDA.out, read_bad HK0.out h1 h2]
          by_cases hp : c = 43
          · have hsp : sepB c = false := by rw [hp]; decide
            subst hp
            by_cases ho : o = []
            · subst ho
              have HOA := Lib.hid (HO.out.alloc (.cells #[.int .u8 43] 5))
              as_aux_lemma =>
                go_wp2_with (at_builtin; refine wpList_append_own _ rfl (.tmp 42) (.tmp 44) 108 rfl (w.heap.size + 1 + 1) 5 i0 (.int .u8 0) 1 1 Tryz.underlying108 hi hz0 hz1 hz2 rfl (by decide) _ 0 _ rfl HOA.out ⟨w'.heap.size, 0, none⟩ 1 1 [.int .u8 43] rfl rfl (news_one (by go_simp)) (by simp [Value.oneCell']) (by simp only [maxLen]; omega) (by omega) (by simp; omega) ?_; intro v6 w6 hown6 hgr6 _)
                have HO7 : Hid (w6.ownsRow (w.heap.size + 1 + 1) 5 1 v6 [(43 : UInt8)].length (cellsB [43])) := hown6
                have hup : Below (w.heap.size + 1 + 1) w' w6 := upto_grown hgr6 (by omega) hrow
                have HB7 : Hid (Below W1.heap.size W1 w6) := HB.out.trans (hup.mono (by have := HWS.out; omega))
                have HC7 : Hid (∀ j, j < s.length → w6.cell? ⟨w.heap.size + 1, j, none⟩ = some (.int .u8 (s.getD j 0).toNat)) := fun j hj => (hup.cell (p := ⟨w.heap.size + 1, j, none⟩) (by simp)).trans (HC.out j hj)
                have HZ7 : Hid (w.heap.size + 1 + 1 ≤ w6.heap.size) := Nat.le_trans hz1' hup.size
                have HG7 : Hid (readB (s.drop (k + 1)) [43] = readB s []) := by
                  show _ = _
                  rw [← HG.out, HDA.out, read_plus]
                clear hown6 hgr6 hup
                go_roundw
                case rel => exact ⟨k + 1, [43], by omega, by go_num, by simp, HG7, HO7, HC7, HB7, HZ7⟩
                case measure => simp [intOf]; omega
            · have HF : Hid (R = (9, [])) := HBADR.out (fun h => ho h.2) hsp
              have hol0 : 0 < o.length := List.length_pos_iff.2 ho
              have hne0 : ((o.length : Int) == 0) = false := by simp; omega
              as_aux_lemma =>
                go_wp2_with fail
                refine (HSEP.out _).mono ?_
                rintro e w'' ⟨r, rfl, hr1, hr2, rfl⟩
                have hrn := hr2 hsp
                clear hr1 hr2
                go_wp2_with fail
                go_ret2
                exact ⟨by rw [HF.out]; rfl, ext_trans HB0.out HB.out⟩
          · have hc43 : ((c.toNat : Int) == 43) = false := by
              simp only [beq_eq_false_iff_ne, ne_eq]
              intro h
              exact hp (UInt8.toNat_inj.1 (by show c.toNat = 43; omega))
            have HP := Lib.hid hp
            clear hp
            as_aux_lemma =>
              go_wp2_with fail
              refine (HSEP.out _).mono ?_
              rintro e w'' ⟨r, rfl, hr1, hr2, rfl⟩
              cases hsp : sepB c
              · have HF : Hid (R = (9, [])) := HBADR.out (fun h => HP.out h.1) hsp
                have hrn := hr2 hsp
                clear hr1 hr2 hsp
                go_wp2_with fail
                go_ret2
                exact ⟨by rw [HF.out]; rfl, ext_trans HB0.out HB.out⟩
              · have hrn := hr1 hsp
                have HG7 : Hid (readB (s.drop (k + 1)) o = readB s []) := by
                  show _ = _
                  rw [← HG.out, HDA.out, read_sep hsp]
                clear hr1 hr2 hsp
                go_wp2_with fail
                go_roundw
                case rel => exact ⟨k + 1, o, by omega, by go_num, by omega, HG7, HO, HC, HB, HZ⟩
                case measure => simp [intOf]; omega
        · have hne : ((q : Int) == 0) = false := by simp; omega
          have HOA := Lib.hid (HO.out.alloc (.cells #[.int .u8 q] 5))
          go_wp2_with (at_builtin; refine wpList_append_own _ rfl (.tmp 30) (.tmp 32) 108 rfl (w.heap.size + 1 + 1) 5 i0 (.int .u8 0) 1 1 Tryz.underlying108 hi hz0 hz1 hz2 rfl (by decide) _ o.length _ rfl HOA.out ⟨w'.heap.size, 0, none⟩ 1 1 [.int .u8 q] rfl rfl (news_one (by go_simp)) (by simp [Value.oneCell']) (by simp only [maxLen]; omega) (by omega) (by simp; omega) ?_; intro v6 w6 hown6 hgr6 _)
          have HO7 : Hid (w6.ownsRow (w.heap.size + 1 + 1) 5 1 v6 (o ++ [keyB c]).length (cellsB (o ++ [keyB c]))) := by
            show World.ownsRow _ _ _ _ _ _ _
            rw [cells_snoc, HQE.out, List.length_append]
            exact hown6
          have hup : Below (w.heap.size + 1 + 1) w' w6 := upto_grown hgr6 (by omega) hrow
          have HB7 : Hid (Below W1.heap.size W1 w6) := HB.out.trans (hup.mono (by have := HWS.out; omega))
          have HC7 : Hid (∀ j, j < s.length → w6.cell? ⟨w.heap.size + 1, j, none⟩ = some (.int .u8 (s.getD j 0).toNat)) := fun j hj => (hup.cell (p := ⟨w.heap.size + 1, j, none⟩) (by simp)).trans (HC.out j hj)
          have HZ7 : Hid (w.heap.size + 1 + 1 ≤ w6.heap.size) := Nat.le_trans hz1' hup.size
          have HG7 : Hid (readB (s.drop (k + 1)) (o ++ [keyB c]) = readB s []) := by
            show _ = _
            rw [← HG.out, HDA.out, read_key (fun h9 => h0 (by rw [← HQE.out, h9]; rfl))]
          clear hown6 hgr6 hup
          go_roundw
          case rel => exact ⟨k + 1, _, by omega, by go_num, by simp; omega, HG7, HO7, HC7, HB7, HZ7⟩
          case measure => simp [intOf]; omega
      · obtain rfl : k = s.length := by omega
        have hro : readB s [] = some o := by rw [← HG.out, List.drop_length]; rfl
        have hlen : o.length ≤ 60 := by omega
        have HBW : Hid (Below w.heap.size w wr) := ext_trans HB0.out HB.out
        have HE2 : Hid (wr.cell? ⟨w.heap.size, 0, none⟩ = some (.string ⟨code0.toArray⟩) ∧ wr.cell? ⟨w.heap.size, 1, none⟩ = some (.string ⟨area.toArray⟩)) := ⟨(HB.out.cell (p := ⟨w.heap.size, 0, none⟩) HZH.out).trans HE01.out.1, (HB.out.cell (p := ⟨w.heap.size, 1, none⟩) HZH.out).trans HE01.out.2⟩
        have HD3 : Hid (R = match (some o : Option (List UInt8)) with
          | none => (9, [])
          | some [] => (9, [])
          | some (x :: n) => if x = 43 then (if (splitP l (x :: n)).err ≠ 0 then ((splitP l (x :: n)).err, []) else (0, x :: n)) else if 30 < (x :: n).length then (2, []) else reachP l c0 area (x :: n)) := by show _ = _; rw [HD2.out, hro]
        have HO2 := HO.out
        have hcvx : ∃ av cv, u8 = Value.slice av o.length cv ∧ (convert 108 9 (.slice av o.length cv)).run Tryz.prog wr = .ok (.string ⟨o.toArray⟩) wr := by
          rcases HO2.2 with ⟨rfl, h0⟩ | ⟨g, cv, cur, rfl, _⟩
          · have hy : o = [] := List.eq_nil_of_length_eq_zero h0
            subst hy
            exact ⟨none, 0, rfl, run_convert_bytes_nil (P := Tryz.prog) wr 108 5 Tryz.underlying108 Tryz.underlying5 0 0 9 Tryz.underlying9⟩
          · exact ⟨_, _, rfl, str_back wr g cv o (fun j hj => by
              rw [HO2.cellAt j (by omega), cellsB, List.getElem?_map, List.getElem?_eq_getElem hj]; rfl)⟩
        obtain ⟨av, cv, rfl, hcv2⟩ := hcvx
        clear HO2 hro HD2 HG HO HC HZ
        cases o with
        | nil =>
          simp only [List.length_nil] at hcv2
          have HF : Hid (R = (9, [])) := HD3.out
          as_aux_lemma =>
            go_wp2_with fail
            go_ret2
            exact ⟨by rw [HF.out]; rfl, HBW.out⟩
        | cons x m =>
          have hcv3 := hcv2
          simp only [List.length_cons] at hcv2
          by_cases hx : x = 43
          · subst hx
            have HF : Hid (R = if (splitP l (43 :: m)).err ≠ 0 then ((splitP l (43 :: m)).err, []) else (0, 43 :: m)) := HD3.out
            have hsl : (43 :: m).length ≤ 1000 := by omega
            as_aux_lemma =>
              go_wp2_with fail
              refine (splitOf_any _ a n cap l (HR.out.below HBW.out) hcap (43 :: m) hsl).mono ?_
              rintro e w5 ⟨rfl, hb5⟩
              have HB5 : Hid (Below w.heap.size w w5) := ext_trans HBW.out hb5
              clear hb5
              rw [split_same _ HE0.out]
              generalize splitP l (43 :: m) = X at HF
              obtain ⟨er, x1, x2, x3⟩ := X
              simp only at HF ⊢
              by_cases he : er = 0
              · subst he
                have HF2 : Hid (R = (0, 43 :: m)) := HF.out
                go_wp2_with fail
                go_ret2
                exact ⟨by rw [HF2.out]; rfl, ext_alloc HB5.out⟩
              · have HF2 : Hid (R = (er, [])) := by show _ = _; rw [HF.out, if_pos he]
                go_wp2_with fail
                go_ret2
                exact ⟨by rw [HF2.out]; rfl, ext_alloc HB5.out⟩
          · have HD4 : Hid (R = if 30 < (x :: m).length then (2, []) else reachP l c0 area (x :: m)) := by show _ = _; rw [HD3.out]; simp only; rw [if_neg hx]
            have hx43 : ((x.toNat : Int) == 43) = false := by
              simp only [beq_eq_false_iff_ne, ne_eq]
              intro h
              exact hx (UInt8.toNat_inj.1 (by show x.toNat = 43; omega))
            have hxn : ¬ (x.toNat = 43) := fun h => hx (UInt8.toNat_inj.1 (by simpa using h))
            have hxi : ¬ ((x.toNat : Int) = 43) := by omega
            have hxb : (x == 43) = false := by simpa using hx
            have hx0 : ((((⟨(x :: m).toArray⟩ : ByteArray)[0]'(by show 0 < m.length + 1; omega)).toNat : Int) == 43) = false := hx43
            clear HD3 hxn hxi hxb hx43
            by_cases h30 : 30 < (x :: m).length
            · have HF : Hid (R = (2, [])) := by show _ = _; rw [HD4.out, if_pos h30]
              have h31 : 30 < m.length + 1 := h30
              as_aux_lemma =>
                go_wp2_with fail
                go_ret2
                exact ⟨by rw [HF.out]; rfl, HBW.out⟩
            · have HF : Hid (R = reachP l c0 area (x :: m)) := by show _ = _; rw [HD4.out, if_neg h30]
              have h31 : ¬ (30 < m.length + 1) := h30
              have hsl : (x :: m).length ≤ 1000 := by omega
              obtain ⟨q0, q1⟩ := HE2.out
              have hz9 : w.heap.size < wr.heap.size := Nat.lt_of_lt_of_le HZH.out HB.out.size
              clear hcv3 HE2
              as_aux_lemma =>
                go_wp2_with fail
                refine (reachedFrom_any _ a n cap l (HR.out.below HBW.out) hcap hne HE0.out c0 code0 area (x :: m) HFC.out ha hsl).mono ?_
                rintro e w5 ⟨rfl, hb5⟩
                have HB5 : Hid (Below w.heap.size w w5) := ext_trans HBW.out hb5
                clear hb5
                rw [← HF.out]
                go_wp2_with fail
                go_ret2
                exact ⟨rfl, HB5.out⟩
end Go.Proofs.YthajppcmmmkfcaaGreatDoor

set_option linter.unusedVariables false
set_option linter.unusedSimpArgs false
namespace Go.Proofs.YthajppcmmmkfcaaGreatDoor
open Go.RowKit

def readTop (l : List Ctry) (code area s : List UInt8) : Int × List UInt8 :=
  if planErr l ≠ 0 then (planErr l, []) else match homeC l code area with
    | none => (8, [])
    | some c => readP l c area s

set_option maxRecDepth 100000 in
set_option maxHeartbeats 4000000 in
theorem readForm_any (w : World) (a : Option Addr) (n cap : Nat) (l : List Ctry) (hr : CtryRow w a n l) (hcap : n ≤ cap) (hne : 1 ≤ n) (hna : ∀ i, i < l.length → 1 ≤ (l.getD i noCtry).an) (code0 area s : List UInt8) (ha : area.length ≤ 100) (hs : s.length ≤ 1000) :
    Calls Tryz.prog 30 #[.slice a n cap, .agg #[.string ⟨code0.toArray⟩, .string ⟨area.toArray⟩], .string ⟨s.toArray⟩] w (StrPost (readTop l code0 area s) w) := by
  have HR := Lib.hid hr
  have HNA := Lib.hid hna
  have HDEF : Hid (readTop l code0 area s = if planErr l ≠ 0 then (planErr l, ([] : List UInt8)) else match homeC l code0 area with | none => (8, []) | some c => readP l c area s) := rfl
  generalize readTop l code0 area s = R at HDEF ⊢
  obtain ⟨i0, hi, hz0, hz1, hz2⟩ := info_parts Tryz.infoByte
  clear hr hna
  go_enter Tryz.func30, Tryz.ntmps30
  go_wp2_with fail
  refine (open_any _ a n cap l (HR.out.below (ext_alloc (Below.refl _ _))) hcap hne code0 area).mono ?_
  rintro e w1 ⟨hcase, hb1⟩
  have HB1 : Hid (Below w.heap.size w w1) := ext_trans (ext_alloc (Below.refl _ _)) hb1
  have h0 : w1.cell? ⟨w.heap.size, 0, none⟩ = some (.string ⟨code0.toArray⟩) := (hb1.cell (p := ⟨w.heap.size, 0, none⟩) (by simp)).trans (by go_simp)
  have h1 : w1.cell? ⟨w.heap.size, 1, none⟩ = some (.string ⟨area.toArray⟩) := (hb1.cell (p := ⟨w.heap.size, 1, none⟩) (by simp)).trans (by go_simp)
  have hz1' : w.heap.size < w1.heap.size := by have := hb1.size; simp at this; omega
  clear hb1
  rcases hcase with ⟨c, hpe, hhc, rfl⟩ | ⟨er, her, hcase, rfl⟩
  · have hcl := ctry_len HR.out (p := homeP code0 area) hhc
    have HD2 : Hid (R = readP l c area s) := by
      show _ = _
      rw [HDEF.out, if_neg (by simp [hpe]), hhc]
    have HD3 : Hid (readP l c area s = if 60 < s.length then ((2 : Int), ([] : List UInt8)) else match readB s [] with
      | none => (9, [])
      | some [] => (9, [])
      | some (x :: n) => if x = 43 then (if (splitP l (x :: n)).err ≠ 0 then ((splitP l (x :: n)).err, []) else (0, x :: n)) else if 30 < (x :: n).length then (2, []) else reachP l c area (x :: n)) := rfl
    have HRE := Lib.hid (fun (W : World) (hB : Below w.heap.size w W) (d : List UInt8) (hd : d.length ≤ 1000) => reached_any W a n cap l (HR.out.below hB) hne HNA.out c hcl.1 hcl.2.1 hcl.2.2 code0 area d ha hd)
    clear HDEF hpe hhc
    generalize homeX c area = x
    obtain ⟨xp, xl, xh⟩ := x
    obtain ⟨code, abroad, trunk, aa, an, ac, areas⟩ := c
    obtain ⟨q1, q2, q3⟩ := hcl
    simp only [Ctry.cells, Area.cells] at q1 q2 q3 HRE ⊢
    by_cases hbig : 60 < s.length
    · have HF : Hid (R = (2, [])) := by show _ = _; rw [HD2.out, HD3.out, if_pos hbig]
      as_aux_lemma =>
        go_wp2_with fail
        go_ret2
        exact ⟨by rw [HF.out]; rfl, (by (try show Below _ _ _); repeat (with_reducible first | exact Below.refl _ _ | assumption | exact Hid.out (by assumption) | refine ext_alloc ?_ | refine ext_drewN ?_ | refine ext_drew ?_ | refine ext_setCell ?_ (Nat.le_refl _) | refine ext_setCell ?_ (Nat.le_succ _) | refine ext_trans ?_ (by assumption) | (refine ext_setCell ?_ (by simp)) | (refine ext_setCell ?_ (by simp at *; omega))))⟩
    · have HD4 : Hid (R = match readB s [] with
        | none => (9, [])
        | some [] => (9, [])
        | some (x :: n) => if x = 43 then (if (splitP l (x :: n)).err ≠ 0 then ((splitP l (x :: n)).err, []) else (0, x :: n)) else if 30 < (x :: n).length then (2, []) else reachP l ⟨code, abroad, trunk, aa, an, ac, areas⟩ area (x :: n)) := by show _ = _; rw [HD2.out, HD3.out, if_neg hbig]
      clear HD2 HD3
      as_aux_lemma =>
        go_wp2_with fail
        have HBX : Hid (Below w.heap.size w ((w1.alloc (.cells #[.string ⟨code.toArray⟩, .string ⟨abroad.toArray⟩, .string ⟨trunk.toArray⟩, .slice aa an ac] 68)).alloc (.cells #[.string ⟨xp.toArray⟩, .int .i64 xl, .int .i64 xh] 72))) := (by (try show Below _ _ _); repeat (with_reducible first | exact Below.refl _ _ | assumption | exact Hid.out (by assumption) | refine ext_alloc ?_ | refine ext_drewN ?_ | refine ext_drew ?_ | refine ext_setCell ?_ (Nat.le_refl _) | refine ext_setCell ?_ (Nat.le_succ _) | refine ext_trans ?_ (by assumption) | (refine ext_setCell ?_ (by simp)) | (refine ext_setCell ?_ (by simp at *; omega))))
        have HEN : Hid (∀ wr, Below ((w1.alloc (.cells #[.string ⟨code.toArray⟩, .string ⟨abroad.toArray⟩, .string ⟨trunk.toArray⟩, .slice aa an ac] 68)).alloc (.cells #[.string ⟨xp.toArray⟩, .int .i64 xl, .int .i64 xh] 72)).heap.size ((w1.alloc (.cells #[.string ⟨code.toArray⟩, .string ⟨abroad.toArray⟩, .string ⟨trunk.toArray⟩, .slice aa an ac] 68)).alloc (.cells #[.string ⟨xp.toArray⟩, .int .i64 xl, .int .i64 xh] 72)) wr →
            (wr.cell? ⟨w.heap.size, 0, none⟩ = some (.string ⟨code0.toArray⟩) ∧ wr.cell? ⟨w.heap.size, 1, none⟩ = some (.string ⟨area.toArray⟩) ∧ wr.cell? ⟨w1.heap.size, 0, none⟩ = some (.string ⟨code.toArray⟩) ∧ wr.cell? ⟨w1.heap.size, 1, none⟩ = some (.string ⟨abroad.toArray⟩) ∧ wr.cell? ⟨w1.heap.size, 2, none⟩ = some (.string ⟨trunk.toArray⟩) ∧ wr.cell? ⟨w1.heap.size, 3, none⟩ = some (.slice aa an ac)) ∧ w1.heap.size < wr.heap.size) := fun wr hb => by
          have hz := hb.size
          simp at hz
          exact ⟨⟨(hb.cell (p := ⟨w.heap.size, 0, none⟩) (by simp; omega)).trans (by go_simp), (hb.cell (p := ⟨w.heap.size, 1, none⟩) (by simp; omega)).trans (by go_simp), (hb.cell (p := ⟨w1.heap.size, 0, none⟩) (by simp; omega)).trans (by go_simp), (hb.cell (p := ⟨w1.heap.size, 1, none⟩) (by simp; omega)).trans (by go_simp), (hb.cell (p := ⟨w1.heap.size, 2, none⟩) (by simp; omega)).trans (by go_simp), (hb.cell (p := ⟨w1.heap.size, 3, none⟩) (by simp; omega)).trans (by go_simp)⟩, by omega⟩
        clear h0 h1
        generalize (World.alloc (w1.alloc _) _) = W1 at HBX HEN ⊢
        go_loopw [11, 32] (fun v i wr => ∃ (k : Nat) (o : List UInt8), k ≤ s.length ∧ i = .int .i64 k ∧ o.length ≤ k ∧ Hid (readB (s.drop k) o = readB s []) ∧ Hid (wr.ownsRow W1.heap.size 5 1 v o.length (cellsB o)) ∧ Hid (Below W1.heap.size W1 wr)) (fun _ i _ => s.length - (intOf i).toNat)
        case atStart => exact ⟨0, [], by omega, rfl, Nat.le_refl _, rfl, World.ownsRow_nil _ _ _ _, Below.refl _ _⟩
        case round =>
          obtain ⟨k, o, hk, rfl, hol, HG, HO, HB⟩ := hrel
          by_cases hlt : k < s.length
          · have hidx : k < (⟨s.toArray⟩ : ByteArray).size := hlt
            have HSA := Lib.hid (str_at hlt hidx)
            generalize hc : s.getD k 0 = c at HSA
            have HDA := Lib.hid (drop_at hlt hc)
            clear hc
            have HKEY := Lib.hid (fun w => key_any c w)
            have HSEP := Lib.hid (fun w => sep_l c w)
            have HRW := Lib.hid (fun b e => (HO.out.lt b e).1)
            have HREST : Hid (Below W1.heap.size W1 wr) := HB
            go_wp2_with fail
            rw [HSA.out]
            refine (HSEP.out _).mono ?_
            rintro e w'' ⟨r, rfl, hr1, hr2, rfl⟩
            cases hsp : sepB c
            · have hrn := hr2 hsp
              have HNS := Lib.hid hsp
              clear hr1 hr2 hsp
              as_aux_lemma =>
                go_wp2_with fail
                rw [HSA.out]
                refine (HKEY.out _).mono ?_
                rintro e w' ⟨rfl, rfl⟩
                have HQ : Hid (∀ q, (keyB c).toNat = q → (keyB c).toNat = q) := fun q h => h
                generalize hq : (keyB c).toNat = q
                have HQE := Lib.hid (HQ.out q hq)
                clear hq HQ
                by_cases h0 : q = 0
                · subst h0
                  have hk0 : keyB c = 0 := UInt8.toNat_inj.1 (by simpa using HQE.out)
                  have HK0 := Lib.hid hk0
                  clear hk0
                  obtain ⟨av, cv, rfl⟩ := own_sl HO.out
                  have HBADR : Hid (¬ (c = 43 ∧ o = []) → R = (9, [])) := fun h1 => by
                    rw [HD4.out, ← HG.out, HDA.out, read_bad HK0.out h1 HNS.out]
                  by_cases hp : c = 43
                  · subst hp
                    have h43 : ((((⟨s.toArray⟩ : ByteArray)[k]'hidx).toNat : Int) == 43) = true := by rw [HSA.out]; rfl
                    by_cases ho : o = []
                    · subst ho
                      have HOA := Lib.hid (HO.out.alloc (.cells #[.int .u8 43] 5))
                      as_aux_lemma =>
                        go_wp2_with (at_builtin; refine wpList_append_own _ rfl (.tmp 61) (.tmp 62) 108 rfl W1.heap.size 5 i0 (.int .u8 0) 1 1 Tryz.underlying108 hi hz0 hz1 hz2 rfl (by decide) _ 0 _ rfl HOA.out ⟨w'.heap.size, 0, none⟩ 1 1 [.int .u8 43] rfl rfl (news_one (by go_simp)) (by simp [Value.oneCell']) (by simp only [maxLen]; omega) (by omega) (by have := HREST.out.size; simp; omega) ?_; intro v6 w6 hown6 hgr6 _)
                        have HO7 : Hid (w6.ownsRow W1.heap.size 5 1 v6 [(43 : UInt8)].length (cellsB [43])) := hown6
                        have hup : Below W1.heap.size w' w6 := upto_grown hgr6 HREST.out.size HRW.out
                        have HB7 : Hid (Below W1.heap.size W1 w6) := HB.out.trans hup
                        have HG7 : Hid (readB (s.drop (k + 1)) [43] = readB s []) := by
                          show _ = _
                          rw [← HG.out, HDA.out, read_plus]
                        clear hown6 hgr6 hup
                        go_roundw
                        case rel => exact ⟨k + 1, [43], by omega, by go_num, by simp, HG7, HO7, HB7⟩
                        case measure => simp [intOf]; omega
                    · have HF : Hid (R = (9, [])) := HBADR.out (fun h => ho h.2)
                      have hol0 : 0 < o.length := List.length_pos_iff.2 ho
                      have hne0 : ((o.length : Int) == 0) = false := by simp; omega
                      as_aux_lemma =>
                        go_wp2_with fail
                        go_ret2
                        exact ⟨by rw [HF.out]; rfl, ext_trans HBX.out HB.out⟩
                  · have h43 : ((((⟨s.toArray⟩ : ByteArray)[k]'hidx).toNat : Int) == 43) = false := by
                      rw [HSA.out]
                      simp only [beq_eq_false_iff_ne, ne_eq]
                      intro h
                      exact hp (UInt8.toNat_inj.1 (by show c.toNat = 43; omega))
                    have HF : Hid (R = (9, [])) := HBADR.out (fun h => hp h.1)
                    clear hp
                    as_aux_lemma =>
                      go_wp2_with fail
                      go_ret2
                      exact ⟨by rw [HF.out]; rfl, ext_trans HBX.out HB.out⟩
                · have hne : ((q : Int) == 0) = false := by simp; omega
                  have hq0 : (0 : Int) < (q : Int) := by omega
                  have HOA := Lib.hid (HO.out.alloc (.cells #[.int .u8 q] 5))
                  as_aux_lemma =>
                    go_wp2_with (at_builtin; refine wpList_append_own _ rfl (.tmp 47) (.tmp 49) 108 rfl W1.heap.size 5 i0 (.int .u8 0) 1 1 Tryz.underlying108 hi hz0 hz1 hz2 rfl (by decide) _ o.length _ rfl HOA.out ⟨w'.heap.size, 0, none⟩ 1 1 [.int .u8 q] rfl rfl (news_one (by go_simp)) (by simp [Value.oneCell']) (by simp only [maxLen]; omega) (by omega) (by have := HREST.out.size; simp; omega) ?_; intro v6 w6 hown6 hgr6 _)
                    have HO7 : Hid (w6.ownsRow W1.heap.size 5 1 v6 (o ++ [keyB c]).length (cellsB (o ++ [keyB c]))) := by
                      show World.ownsRow _ _ _ _ _ _ _
                      rw [cells_snoc, HQE.out, List.length_append]
                      exact hown6
                    have hup : Below W1.heap.size w' w6 := upto_grown hgr6 HREST.out.size HRW.out
                    have HB7 : Hid (Below W1.heap.size W1 w6) := HB.out.trans hup
                    have HG7 : Hid (readB (s.drop (k + 1)) (o ++ [keyB c]) = readB s []) := by
                      show _ = _
                      rw [← HG.out, HDA.out, read_key (fun h9 => h0 (by rw [← HQE.out, h9]; rfl))]
                    clear hown6 hgr6 hup
                    go_roundw
                    case rel => exact ⟨k + 1, _, by omega, by go_num, by simp; omega, HG7, HO7, HB7⟩
                    case measure => simp [intOf]; omega
            · have hrn := hr1 hsp
              have HG7 : Hid (readB (s.drop (k + 1)) o = readB s []) := by
                show _ = _
                rw [← HG.out, HDA.out, read_sep hsp]
              clear hr1 hr2 hsp
              as_aux_lemma =>
                go_wp2_with fail
                go_roundw
                case rel => exact ⟨k + 1, o, by omega, by go_num, by omega, HG7, HO, HB⟩
                case measure => simp [intOf]; omega
          · skip
            obtain rfl : k = s.length := by omega
            have hro : readB s [] = some o := by rw [← HG.out, List.drop_length]; rfl
            have hlen : o.length ≤ 60 := by omega
            have HBW : Hid (Below w.heap.size w wr) := ext_trans HBX.out HB.out
            have HE2 := Lib.hid (HEN.out wr HB.out)
            have HD5 : Hid (R = match (some o : Option (List UInt8)) with
              | none => (9, [])
              | some [] => (9, [])
              | some (x :: n) => if x = 43 then (if (splitP l (x :: n)).err ≠ 0 then ((splitP l (x :: n)).err, []) else (0, x :: n)) else if 30 < (x :: n).length then (2, []) else reachP l ⟨code, abroad, trunk, aa, an, ac, areas⟩ area (x :: n)) := by show _ = _; rw [HD4.out, hro]
            have HO2 := HO.out
            have hcvx : ∃ av cv, u11 = Value.slice av o.length cv ∧ (convert 108 9 (.slice av o.length cv)).run Tryz.prog wr = .ok (.string ⟨o.toArray⟩) wr := by
              rcases HO2.2 with ⟨rfl, h0⟩ | ⟨g, cv, cur, rfl, _⟩
              · have hy : o = [] := List.eq_nil_of_length_eq_zero h0
                subst hy
                exact ⟨none, 0, rfl, run_convert_bytes_nil (P := Tryz.prog) wr 108 5 Tryz.underlying108 Tryz.underlying5 0 0 9 Tryz.underlying9⟩
              · exact ⟨_, _, rfl, str_back wr g cv o (fun j hj => by
                  rw [HO2.cellAt j (by omega), cellsB, List.getElem?_map, List.getElem?_eq_getElem hj]; rfl)⟩
            obtain ⟨av, cv, rfl, hcv2⟩ := hcvx
            clear HO2 hro HD4 HG HO
            cases o with
            | nil =>
              simp only [List.length_nil] at hcv2
              have HF : Hid (R = (9, [])) := HD5.out
              as_aux_lemma =>
                go_wp2_with fail
                go_ret2
                exact ⟨by rw [HF.out]; rfl, HBW.out⟩
            | cons x m =>
              simp only [List.length_cons] at hcv2
              by_cases hx : x = 43
              · subst hx
                have HF : Hid (R = if (splitP l (43 :: m)).err ≠ 0 then ((splitP l (43 :: m)).err, []) else (0, 43 :: m)) := HD5.out
                have hsl : (43 :: m).length ≤ 1000 := by omega
                as_aux_lemma =>
                  go_wp2_with fail
                  refine (split_any _ a n cap l (HR.out.below HBW.out) hne HNA.out (43 :: m) hsl).mono ?_
                  rintro e w5 ⟨y0, y1, y2, ya, yn, yc, y4, y5, y6, rfl, hb5⟩
                  have HB5 : Hid (Below w.heap.size w w5) := ext_trans HBW.out hb5
                  clear hb5
                  generalize splitP l (43 :: m) = X at HF ⊢
                  obtain ⟨er, x1, x2, x3⟩ := X
                  simp only at HF ⊢
                  by_cases he : er = 0
                  · subst he
                    have HF2 : Hid (R = (0, 43 :: m)) := HF.out
                    go_wp2_with fail
                    go_ret2
                    exact ⟨by rw [HF2.out]; rfl, ext_alloc HB5.out⟩
                  · have HF2 : Hid (R = (er, [])) := by show _ = _; rw [HF.out, if_pos he]
                    go_wp2_with fail
                    go_ret2
                    exact ⟨by rw [HF2.out]; rfl, ext_alloc HB5.out⟩
              · have HD6 : Hid (R = if 30 < (x :: m).length then (2, []) else reachP l ⟨code, abroad, trunk, aa, an, ac, areas⟩ area (x :: m)) := by show _ = _; rw [HD5.out]; simp only; rw [if_neg hx]
                have hx43 : ((x.toNat : Int) == 43) = false := by
                  simp only [beq_eq_false_iff_ne, ne_eq]
                  intro h
                  exact hx (UInt8.toNat_inj.1 (by show x.toNat = 43; omega))
                have hx0 : ((((⟨(x :: m).toArray⟩ : ByteArray)[0]'(by show 0 < m.length + 1; omega)).toNat : Int) == 43) = false := hx43
                clear HD5 hx43
                by_cases h30 : 30 < (x :: m).length
                · have HF : Hid (R = (2, [])) := by show _ = _; rw [HD6.out, if_pos h30]
                  have h31 : 30 < m.length + 1 := h30
                  as_aux_lemma =>
                    go_wp2_with fail
                    go_ret2
                    exact ⟨by rw [HF.out]; rfl, HBW.out⟩
                · have HF : Hid (R = reachP l ⟨code, abroad, trunk, aa, an, ac, areas⟩ area (x :: m)) := by show _ = _; rw [HD6.out, if_neg h30]
                  have h31 : ¬ (30 < m.length + 1) := h30
                  have hsl : (x :: m).length ≤ 1000 := by omega
                  obtain ⟨⟨q0, q1, q2, q3, q4, q5⟩, hz9⟩ := HE2.out
                  have hwz : w.heap.size < wr.heap.size := by omega
                  clear HE2
                  as_aux_lemma =>
                    go_wp2_with fail
                    refine (HRE.out _ HBW.out (x :: m) hsl).mono ?_
                    rintro e w5 ⟨rfl, hb5⟩
                    have HB5 : Hid (Below w.heap.size w w5) := ext_trans HBW.out hb5
                    clear hb5
                    rw [← HF.out]
                    go_wp2_with fail
                    go_ret2
                    exact ⟨rfl, HB5.out⟩
  · have HF : Hid (R = (er, [])) := by
      show _ = _
      rcases hcase with h | ⟨h, rfl, h2⟩
      · rw [HDEF.out, if_pos (by rw [h]; exact her), h]
      · rw [HDEF.out, if_neg (by simp [h]), h2]
    clear HDEF hcase
    simp only [Ctry.cells, Area.cells, noCtry, noArea]
    as_aux_lemma =>
      go_wp2_with fail
      go_ret2
      exact ⟨by rw [HF.out]; rfl, (by (try show Below _ _ _); repeat (with_reducible first | exact Below.refl _ _ | assumption | exact Hid.out (by assumption) | refine ext_alloc ?_ | refine ext_drewN ?_ | refine ext_drew ?_ | refine ext_setCell ?_ (Nat.le_refl _) | refine ext_setCell ?_ (Nat.le_succ _) | refine ext_trans ?_ (by assumption) | (refine ext_setCell ?_ (by simp)) | (refine ext_setCell ?_ (by simp at *; omega))))⟩
end Go.Proofs.YthajppcmmmkfcaaGreatDoor

set_option linter.unusedVariables false
set_option linter.unusedSimpArgs false
namespace Go.Proofs.YthajppcmmmkfcaaGreatDoor
open Go.RowKit

def rowCells (x y z : Ctry) : List Value := x.cells ++ y.cells ++ z.cells

set_option maxRecDepth 100000 in
set_option maxHeartbeats 2000000 in
theorem reverse3 (w : World) (P : Nat) (x y z : Ctry) (hP : P < w.heap.size) (hc : ∀ j, j < 12 → w.cell? ⟨P, j, none⟩ = (rowCells x y z)[j]?) (hf : ∀ j, w.frozen? ⟨P, j, none⟩ = false) :
    Calls Tryz.prog 43 #[.slice (some ⟨P, 0, none⟩) 3 3] w fun e w' => e = .returned (.tuple #[]) ∧ (∀ j, j < 12 → w'.cell? ⟨P, j, none⟩ = (rowCells z y x)[j]?) ∧ Keeps P w w' := by
  obtain ⟨c0, a0, t0, s0, n0, m0, r0⟩ := x
  obtain ⟨c1, a1, t1, s1, n1, m1, r1⟩ := y
  obtain ⟨c2, a2, t2, s2, n2, m2, r2⟩ := z
  have k0 := hc 0 (by omega)
  have k1 := hc 1 (by omega)
  have k2 := hc 2 (by omega)
  have k3 := hc 3 (by omega)
  have k4 := hc 4 (by omega)
  have k5 := hc 5 (by omega)
  have k6 := hc 6 (by omega)
  have k7 := hc 7 (by omega)
  have k8 := hc 8 (by omega)
  have k9 := hc 9 (by omega)
  have k10 := hc 10 (by omega)
  have k11 := hc 11 (by omega)
  simp only [rowCells, Ctry.cells, List.cons_append, List.nil_append, List.getElem?_cons_zero, List.getElem?_cons_succ] at k0 k1 k2 k3 k4 k5 k6 k7 k8 k9 k10 k11
  clear hc
  go_enter Tryz.func43, Tryz.ntmps43
  go_wp2_with fail
  go_loopw [2, 3] (fun i j wr => (i = .int .i64 0 ∧ j = .int .i64 2 ∧ wr = w) ∨ (i = .int .i64 1 ∧ j = .int .i64 1 ∧ Hid ((∀ j, j < 12 → wr.cell? ⟨P, j, none⟩ = (rowCells ⟨c2, a2, t2, s2, n2, m2, r2⟩ ⟨c1, a1, t1, s1, n1, m1, r1⟩ ⟨c0, a0, t0, s0, n0, m0, r0⟩)[j]?) ∧ Keeps P w wr))) (fun i _ _ => 1 - (intOf i).toNat)
  case atStart => exact Or.inl ⟨rfl, rfl, rfl⟩
  case round =>
    rcases hrel with ⟨rfl, rfl, rfl⟩ | ⟨rfl, rfl, HF⟩
    · go_upto_region 3 with (fail)
      go_region
      go_wp2_with fail
      go_roundw
      case rel =>
        refine Or.inr ⟨by go_num, by go_num, ?_⟩
        refine ⟨fun j hj => ?_, ?_⟩
        · match j, hj with
          | 0, _ | 1, _ | 2, _ | 3, _ | 4, _ | 5, _ | 6, _ | 7, _ | 8, _ | 9, _ | 10, _ | 11, _ => simp only [rowCells, Ctry.cells, List.cons_append, List.nil_append, List.getElem?_cons_zero, List.getElem?_cons_succ]; go_simp
        · refine Keeps.drew ?_
          refine Keeps.setCell ?_ (by rfl) _
          refine Keeps.setCell ?_ (by rfl) _
          refine Keeps.setCell ?_ (by rfl) _
          refine Keeps.setCell ?_ (by rfl) _
          refine Keeps.setCell ?_ (by rfl) _
          refine Keeps.setCell ?_ (by rfl) _
          refine Keeps.setCell ?_ (by rfl) _
          refine Keeps.setCell ?_ (by rfl) _
          exact Keeps.refl _ _
      case measure => simp [intOf]
    · clear k0 k1 k2 k3 k4 k5 k6 k7 k8 k9 k10 k11
      go_wp2_with fail
      (try simp only [Exit.inBlock, Exit.then])
      first | (refine bodyPost_end (results_none rfl _ _ _) rfl ?_) | (refine bodyPost_ret (results_none rfl _ _ _) rfl ?_)
      exact ⟨rfl, HF.out⟩
end Go.Proofs.YthajppcmmmkfcaaGreatDoor
