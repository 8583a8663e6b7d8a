/- What is proved here: the words that a stream hands out: not many, none long. Condition: the stream lies in memory. -/
import Derived.Test.YtbimecknmojnoaaGreatDoorWordWalk
import Derived.Test.YtbimecknmojnoaaGreatDoorPicks
import Derived.Test.YtbimecknmojnoaaGreatDoorPlanBuild
import Derived.Test.YtbimecknmojnoaaGreatDoorChanged
import Derived.Test.YtbimecknmojnoaaGreatDoorShelfRep
set_option linter.unusedVariables false
set_option linter.unusedSimpArgs false
namespace Go.Proofs.YtbimecknmojnoaaGreatDoor
open Go.RowKit

theorem bs_words10 (e : Operand → Value) (he : ∀ v, e (.const v) = v) (o : Oper) (w : World) (b0 b1 b2 b3 b4 b5 b6 b7 b8 b9 : ByteArray) (ho : o.op = .buildSlice 27 10 #[(0, .const (.string b0)), (1, .const (.string b1)), (2, .const (.string b2)), (3, .const (.string b3)), (4, .const (.string b4)), (5, .const (.string b5)), (6, .const (.string b6)), (7, .const (.string b7)), (8, .const (.string b8)), (9, .const (.string b9))]) :
   (execOp e o).run Tryz.prog w = .ok (.value (.slice (some ⟨w.heap.size, 0, none⟩) 10 10)) (w.alloc (.cells #[.string b0, .string b1, .string b2, .string b3, .string b4, .string b5, .string b6, .string b7, .string b8, .string b9] 9)) := by
  unfold execOp
  rw [ho]
  simp only [List.map_toArray, List.map_cons, List.map_nil, he]
  kernel_rfl
theorem bs_words5 (e : Operand → Value) (he : ∀ v, e (.const v) = v) (o : Oper) (w : World) (i4 : Nat) (b0 b1 b2 b3 b4 : ByteArray) (ho : o.op = .buildSlice 27 5 #[(0, .const (.string b0)), (1, .const (.string b1)), (2, .const (.string b2)), (3, .const (.string b3)), (4, .tmp i4)]) (h4 : e (.tmp i4) = .string b4) :
   (execOp e o).run Tryz.prog w = .ok (.value (.slice (some ⟨w.heap.size, 0, none⟩) 5 5)) (w.alloc (.cells #[.string b0, .string b1, .string b2, .string b3, .string b4] 9)) := by
  unfold execOp
  rw [ho]
  simp only [List.map_toArray, List.map_cons, List.map_nil, he, h4]
  kernel_rfl
def tenWords : List Wd := [[97], [97, 100], [98, 101], [98, 101, 100], [99, 97, 98], [100], [100, 97, 100], [102, 97, 100], [102, 101, 100], [109]]
theorem ten_short (k : Nat) : (tenWords.getD k []).length ≤ 100 := by
  match k with
  | 0 | 1 | 2 | 3 | 4 | 5 | 6 | 7 | 8 | 9 => decide
  | k + 10 => simp [tenWords]
def ListPost (S k : Nat) (w : World) (e : Ending) (w' : World) : Prop :=
  ∃ (v : Value) (xs : List Wd), e = .returned v ∧ w'.ownsRow w.heap.size 9 1 v xs.length (xs.map encS) ∧ xs.length ≤ 11 ∧ (∀ x ∈ xs, x.length ≤ 100) ∧ StreamOk w' S (k + 20) ∧ Keeps S w w'

set_option maxRecDepth 100000 in
set_option maxHeartbeats 4000000 in
theorem wordList_any (S k : Nat) (w : World) (h : StreamOk w S k) (hk : k ≤ 1000000) : Calls Tryz.prog 9 #[.pointer (some ⟨S, 0, none⟩)] w (ListPost S k w) := by
  have HS := Lib.hid h
  have hlt := h.lt
  obtain ⟨i0, hi, hz0, hz1, hz2⟩ := info_parts Tryz.infoStr
  clear h
  go_enter Tryz.func9, Tryz.ntmps9
  go_wp2_with (first | (refine wpList_val rfl (bs_words10 _ (fun _ => rfl) _ _ _ _ _ _ _ _ _ _ _ _ rfl) ?_))
  have HK1 : Hid (Keeps S w (w.alloc (.cells #[.string ⟨#[97]⟩, .string ⟨#[97, 100]⟩, .string ⟨#[98, 101]⟩, .string ⟨#[98, 101, 100]⟩, .string ⟨#[99, 97, 98]⟩, .string ⟨#[100]⟩, .string ⟨#[100, 97, 100]⟩, .string ⟨#[102, 97, 100]⟩, .string ⟨#[102, 101, 100]⟩, .string ⟨#[109]⟩] 9))) := (Keeps.refl S w).alloc _
  have HS1 : Hid (StreamOk (w.alloc (.cells #[.string ⟨#[97]⟩, .string ⟨#[97, 100]⟩, .string ⟨#[98, 101]⟩, .string ⟨#[98, 101, 100]⟩, .string ⟨#[99, 97, 98]⟩, .string ⟨#[100]⟩, .string ⟨#[100, 97, 100]⟩, .string ⟨#[102, 97, 100]⟩, .string ⟨#[102, 101, 100]⟩, .string ⟨#[109]⟩] 9)) S k) := HS.out.below (ext_alloc (Below.refl _ _))
  have HC : Hid (∀ w9, Keeps S (w.alloc (.cells #[.string ⟨#[97]⟩, .string ⟨#[97, 100]⟩, .string ⟨#[98, 101]⟩, .string ⟨#[98, 101, 100]⟩, .string ⟨#[99, 97, 98]⟩, .string ⟨#[100]⟩, .string ⟨#[100, 97, 100]⟩, .string ⟨#[102, 97, 100]⟩, .string ⟨#[102, 101, 100]⟩, .string ⟨#[109]⟩] 9)) w9 → w.heap.size < w9.heap.size ∧ ∀ i, i < 10 → w9.cell? ⟨w.heap.size, i, none⟩ = some (.string ⟨(tenWords.getD i []).toArray⟩)) := fun w9 h9 => ⟨by have := h9.size; simp at this; omega, fun i hi => (h9.cell (p := ⟨w.heap.size, i, none⟩) (by simp) (by show w.heap.size ≠ S; omega)).trans (by rw [new_cell]; match i, hi with | 0, _ | 1, _ | 2, _ | 3, _ | 4, _ | 5, _ | 6, _ | 7, _ | 8, _ | 9, _ => rfl)⟩
  have hzw : (World.alloc w (.cells #[.string ⟨#[97]⟩, .string ⟨#[97, 100]⟩, .string ⟨#[98, 101]⟩, .string ⟨#[98, 101, 100]⟩, .string ⟨#[99, 97, 98]⟩, .string ⟨#[100]⟩, .string ⟨#[100, 97, 100]⟩, .string ⟨#[102, 97, 100]⟩, .string ⟨#[102, 101, 100]⟩, .string ⟨#[109]⟩] 9)).heap.size = w.heap.size + 1 := by simp
  generalize World.alloc w _ = W0 at HK1 HS1 HC hzw ⊢
  go_loopw [3, 8] (fun v i wr => ∃ (q : Nat) (xs : List Wd), q ≤ 10 ∧ i = .int .i64 q ∧ xs.length ≤ q ∧ Hid (∀ x ∈ xs, x.length ≤ 100) ∧ Hid (wr.ownsRow (w.heap.size + 1) 9 1 v xs.length (xs.map encS)) ∧ Hid (StreamOk wr S (k + q)) ∧ Hid (Keeps S W0 wr)) (fun _ i _ => 10 - (intOf i).toNat)
  case atStart => exact ⟨0, [], by omega, rfl, Nat.le_refl _, (fun x hx => by cases hx), own_nil _ _ _ _, HS1.out, Keeps.refl _ _⟩
  case round =>
    obtain ⟨q, xs, hq, rfl, hxq, HX, HO, HSR, HKR⟩ := hrel
    by_cases hlt2 : q < 10
    · obtain ⟨hz, hc⟩ := HC.out wr HKR.out
      have c0 := hc q hlt2
      have hsh := ten_short q
      clear hc
      generalize tenWords.getD q [] = x at c0 hsh
      as_aux_lemma =>
        go_wp2_with fail
        refine (flip_any S (k + q) 2 _ HSR.out (by omega) (by decide) (by decide)).mono ?_
        rintro e w2 ⟨fl, rfl, hst2, hk2⟩
        have HS2 := Lib.hid hst2
        have HK2 := Lib.hid (HKR.out.trans hk2)
        have HO2 := Lib.hid (own_keeps HO.out hk2 (by omega))
        have hz2' : w.heap.size < w2.heap.size := Nat.lt_of_lt_of_le hz hk2.size
        have c2 := (hk2.cell (p := ⟨w.heap.size, q, none⟩) hz (by show w.heap.size ≠ S; omega)).trans c0
        clear hst2 hk2 c0 HO HSR HKR
        cases fl
        · skip
          as_aux_lemma =>
            go_wp2_with fail
            go_roundw
            case rel => exact ⟨q + 1, xs, by omega, by go_num, by omega, HX.out, HO2.out, HS2.out, HK2.out⟩
            case measure => first | (simp [intOf]; done) | (simp [intOf]; omega)
        · skip
          have HOA := Lib.hid (HO2.out.alloc (.cells #[.string ⟨x.toArray⟩] 9))
          as_aux_lemma =>
            go_wp2_with (at_builtin; refine wpList_append_own _ rfl (.tmp 14) (.tmp 16) 27 rfl (w.heap.size + 1) 9 i0 (.string ⟨#[]⟩) 1 16 Tryz.underlying27 hi hz0 hz1 hz2 rfl (by decide) _ xs.length _ rfl HOA.out ⟨w2.heap.size, 0, none⟩ 1 1 [.string ⟨x.toArray⟩] rfl rfl (news_one (by go_simp)) (by simp [Value.oneCell']) (by simp only [maxLen]; omega) (by omega) (by simp; omega) ?_; intro v6 w6 hown6 hgr6 _)
            have hrow : ∀ b, u3.ownBlock = some b → w.heap.size + 1 ≤ b := fun b e => (HO2.out.lt b e).1
            have hup : Below (w.heap.size + 1) w2 w6 := upto_grown hgr6 (by omega) hrow
            have HOZ : Hid (w6.ownsRow (w.heap.size + 1) 9 1 v6 (xs ++ [x]).length ((xs ++ [x]).map encS)) := by
              show World.ownsRow _ _ _ _ _ _ _
              rw [show (xs ++ [x]).map encS = xs.map encS ++ [.string ⟨x.toArray⟩] by simp [encS], List.length_append]
              exact hown6
            have HSZ : Hid (StreamOk w6 S (k + (q + 1))) := HS2.out.upto (hup.mono (by omega))
            have HKZ : Hid (Keeps S W0 w6) := HK2.out.grown hgr6 (fun b e => by rw [hzw]; exact hrow b e)
            have HXZ : Hid (∀ y ∈ xs ++ [x], y.length ≤ 100) := fun y hy => by
              rcases List.mem_append.1 hy with hy | hy
              · exact HX.out y hy
              · rw [List.mem_singleton.1 hy]; exact hsh
            clear hown6 hgr6 hup hrow
            go_roundw
            case rel => exact ⟨q + 1, xs ++ [x], by omega, by go_num, by rw [List.length_append, List.length_singleton]; omega, HXZ.out, HOZ.out, HSZ.out, HKZ.out⟩
            case measure => first | (simp [intOf]; done) | (simp [intOf]; omega)
    · obtain rfl : q = 10 := by omega
      have HEND : Hid (∀ w', Keeps S W0 w' → Keeps S w w') := fun w' h9 => HK1.out.trans h9
      as_aux_lemma =>
        go_wp2_with fail
        refine (flip_any S (k + 10) 12 _ HSR.out (by omega) (by decide) (by decide)).mono ?_
        rintro e w2 ⟨fl, rfl, hst2, hk2⟩
        have HS2 := Lib.hid hst2
        have HK2 := Lib.hid (HKR.out.trans hk2)
        have HO2 := Lib.hid (own_keeps HO.out hk2 (by omega))
        have hz2' : w.heap.size + 1 ≤ w2.heap.size := by have := HK2.out.size; omega
        clear hst2 hk2 HO HSR HKR
        cases fl
        · skip
          as_aux_lemma =>
            go_wp2_with fail
            go_ret
            exact ⟨_, xs, rfl, own_le HO2.out (by omega), by omega, HX.out, HS2.out.mono (by omega), HEND.out _ HK2.out⟩
        · skip
          as_aux_lemma =>
            go_wp2_with (first | (refine wpList_val rfl (bs_words5 _ (fun _ => rfl) _ _ _ _ _ _ _ _ rfl rfl) ?_))
            refine (Tryz.strings_Repeat ⟨#[122]⟩ 16 _ (by decide) (by decide)).mono ?_
            rintro e w3 ⟨rfl, hb3⟩
            have hra : (Lib.repeatL (⟨#[122]⟩ : ByteArray).data.toList 16).length ≤ 100 := by rw [Lib.repeatL_length]; decide
            generalize Lib.repeatL (⟨#[122]⟩ : ByteArray).data.toList 16 = ra at hra
            have HK3 := Lib.hid (HK2.out.trans (Keeps.of_below hb3))
            have HS3 := Lib.hid (HS2.out.below hb3)
            have HO3 := Lib.hid (own_keep HO2.out hb3)
            have hz3 : w.heap.size + 1 ≤ w3.heap.size := by have := hb3.size; omega
            clear hb3 HK2 HS2 HO2
            as_aux_lemma =>
              go_wp2_with (first | (refine wpList_val rfl (bs_words5 _ (fun _ => rfl) _ _ _ _ _ _ _ _ rfl rfl) ?_))
              refine (some_any S (k + 11) w3.heap.size 5 5 [[], [65], [122, 122], [97], ra] (fun x => x.length ≤ 100) _ (HS3.out.below (ext_alloc (Below.refl _ _))) (by omega) (by simp) (by have := HS3.out.lt; omega) (by omega) (by omega) (fun i hi => by rw [new_cell]; match i, hi with | 0, _ | 1, _ | 2, _ | 3, _ | 4, _ => rfl) (fun i hi => by match i, hi with | 0, _ | 1, _ | 2, _ | 3, _ => simp | 4, _ => exact hra)).mono ?_
              rintro e w5 ⟨x, rfl, hx, hst5, hkp5⟩
              have HK5 := Lib.hid ((HK3.out.alloc _).trans hkp5)
              have HS5 := Lib.hid hst5
              have HX5 := Lib.hid hx
              have HO5 := Lib.hid (own_keeps (HO3.out.alloc _) hkp5 (by omega))
              have hz5 : w.heap.size + 1 ≤ w5.heap.size := by have := hkp5.size; simp at this; omega
              have HOA := Lib.hid (HO5.out.alloc (.cells #[.string ⟨x.toArray⟩] 9))
              clear hst5 hkp5 hx
              as_aux_lemma =>
                go_wp2_with (at_builtin; refine wpList_append_own _ rfl (.tmp 21) (.tmp 26) 27 rfl (w.heap.size + 1) 9 i0 (.string ⟨#[]⟩) 1 16 Tryz.underlying27 hi hz0 hz1 hz2 rfl (by decide) _ xs.length _ rfl HOA.out ⟨w5.heap.size, 0, none⟩ 1 1 [.string ⟨x.toArray⟩] rfl rfl (news_one (by go_simp)) (by simp [Value.oneCell']) (by simp only [maxLen]; omega) (by omega) (by simp; omega) ?_; intro v6 w6 hown6 hgr6 _)
                have hrow : ∀ b, u3.ownBlock = some b → w.heap.size + 1 ≤ b := fun b e => (HO5.out.lt b e).1
                have hup : Below (w.heap.size + 1) w5 w6 := upto_grown hgr6 (by omega) hrow
                have HOZ : Hid (w6.ownsRow (w.heap.size + 1) 9 1 v6 (xs ++ [x]).length ((xs ++ [x]).map encS)) := by
                  show World.ownsRow _ _ _ _ _ _ _
                  rw [show (xs ++ [x]).map encS = xs.map encS ++ [.string ⟨x.toArray⟩] by simp [encS], List.length_append]
                  exact hown6
                have HSZ : Hid (StreamOk w6 S (k + 20)) := (HS5.out.upto (hup.mono (by omega))).mono (by omega)
                have HKZ : Hid (Keeps S W0 w6) := HK5.out.grown hgr6 (fun b e => by rw [hzw]; exact hrow b e)
                have HXZ : Hid (∀ y ∈ xs ++ [x], y.length ≤ 100) := fun y hy => by
                  rcases List.mem_append.1 hy with hy | hy
                  · exact HX.out y hy
                  · rw [List.mem_singleton.1 hy]; exact HX5.out
                clear hown6 hgr6 hup hrow
                go_ret
                exact ⟨_, xs ++ [x], rfl, own_le HOZ.out (by omega), by rw [List.length_append, List.length_singleton]; omega, HXZ.out, HSZ.out, HEND.out _ HKZ.out⟩
end Go.Proofs.YtbimecknmojnoaaGreatDoor
