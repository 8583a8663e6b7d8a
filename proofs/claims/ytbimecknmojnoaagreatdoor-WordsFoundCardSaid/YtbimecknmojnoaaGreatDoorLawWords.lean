/- What is proved here: the walk of the statement WordsFound: it answers true. Condition: the slice that came in lies in memory. -/
import Derived.Test.YtbimecknmojnoaaGreatDoorWordsOf
import Derived.Test.YtbimecknmojnoaaGreatDoorWordList
import Derived.Test.YtbimecknmojnoaaGreatDoorWordFlt
import Derived.Test.YtbimecknmojnoaaGreatDoorEqualW
import Derived.Test.YtbimecknmojnoaaGreatDoorNumbered
set_option linter.unusedVariables false
set_option linter.unusedSimpArgs false
namespace Go.Proofs.YtbimecknmojnoaaGreatDoor
open Go.RowKit

theorem bs_dgs9 (e : Operand → Value) (he : ∀ v, e (.const v) = v) (o : Oper) (w : World) (p0 : ByteArray) (p1 : ByteArray) (p2 : ByteArray) (p3 : ByteArray) (p4 : ByteArray) (p5 : ByteArray) (p6 : ByteArray) (p7 : ByteArray) (p8 : ByteArray) (ho : o.op = .buildSlice 27 9 #[(0, .const (.string p0)), (1, .const (.string p1)), (2, .const (.string p2)), (3, .const (.string p3)), (4, .const (.string p4)), (5, .const (.string p5)), (6, .const (.string p6)), (7, .const (.string p7)), (8, .const (.string p8))]) :
   (execOp e o).run Tryz.prog w = .ok (.value (.slice (some ⟨w.heap.size, 0, none⟩) 9 9)) (w.alloc (.cells #[.string p0, .string p1, .string p2, .string p3, .string p4, .string p5, .string p6, .string p7, .string p8] 9)) := by
  unfold execOp
  rw [ho]
  simp only [List.map_toArray, List.map_cons, List.map_nil, he]
  kernel_rfl
def nineDigs : List Wd := [[50], [50, 51], [50, 51, 50], [50, 50, 51, 50, 51], [51, 51, 50, 51], [50, 51, 51, 50, 51, 50, 51], [], [54], [120]]
theorem nine_short (k : Nat) : (nineDigs.getD k []).length ≤ 100 := by
  match k with
  | 0 | 1 | 2 | 3 | 4 | 5 | 6 | 7 | 8 => decide
  | k + 9 => simp [nineDigs]
set_option maxRecDepth 100000 in
set_option maxHeartbeats 4000000 in
theorem words_true (w : World) (a : Option Addr) (len cap : Nat) (zs : List Int) (hr : ArgRow w a len cap zs) :
    Calls Tryz.prog 3 #[.slice a len cap] w fun e w' => e = .returned (.bool true) ∧ Below w.heap.size w w' := by
  have HS0 := Lib.hid (stream_start hr)
  clear hr
  go_enter Tryz.func3, Tryz.ntmps3
  go_wp2_with (first | (refine wpList_val rfl (bs_dgs9 _ (fun _ => rfl) _ _ _ _ _ _ _ _ _ _ _ rfl) ?_))
  have HK1 : Hid (Keeps w.heap.size (w.alloc (.cells #[.slice a len cap, .int .i64 0] 25)) ((w.alloc (.cells #[.slice a len cap, .int .i64 0] 25)).alloc (.cells #[.string ⟨#[50]⟩, .string ⟨#[50, 51]⟩, .string ⟨#[50, 51, 50]⟩, .string ⟨#[50, 50, 51, 50, 51]⟩, .string ⟨#[51, 51, 50, 51]⟩, .string ⟨#[50, 51, 51, 50, 51, 50, 51]⟩, .string ⟨#[]⟩, .string ⟨#[54]⟩, .string ⟨#[120]⟩] 9))) := (Keeps.refl _ _).alloc _
  have HS1 : Hid (StreamOk ((w.alloc (.cells #[.slice a len cap, .int .i64 0] 25)).alloc (.cells #[.string ⟨#[50]⟩, .string ⟨#[50, 51]⟩, .string ⟨#[50, 51, 50]⟩, .string ⟨#[50, 50, 51, 50, 51]⟩, .string ⟨#[51, 51, 50, 51]⟩, .string ⟨#[50, 51, 51, 50, 51, 50, 51]⟩, .string ⟨#[]⟩, .string ⟨#[54]⟩, .string ⟨#[120]⟩] 9)) w.heap.size 0) := HS0.out.below (ext_alloc (Below.refl _ _))
  have hzw : ((w.alloc (.cells #[.slice a len cap, .int .i64 0] 25)).alloc (.cells #[.string ⟨#[50]⟩, .string ⟨#[50, 51]⟩, .string ⟨#[50, 51, 50]⟩, .string ⟨#[50, 50, 51, 50, 51]⟩, .string ⟨#[51, 51, 50, 51]⟩, .string ⟨#[50, 51, 51, 50, 51, 50, 51]⟩, .string ⟨#[]⟩, .string ⟨#[54]⟩, .string ⟨#[120]⟩] 9)).heap.size = w.heap.size + 2 := by simp
  have HC : Hid (∀ i, i < 9 → ((w.alloc (.cells #[.slice a len cap, .int .i64 0] 25)).alloc (.cells #[.string ⟨#[50]⟩, .string ⟨#[50, 51]⟩, .string ⟨#[50, 51, 50]⟩, .string ⟨#[50, 50, 51, 50, 51]⟩, .string ⟨#[51, 51, 50, 51]⟩, .string ⟨#[50, 51, 51, 50, 51, 50, 51]⟩, .string ⟨#[]⟩, .string ⟨#[54]⟩, .string ⟨#[120]⟩] 9)).cell? ⟨w.heap.size + 1, i, none⟩ = some (.string ⟨(nineDigs.getD i []).toArray⟩)) := fun i hi => by match i, hi with | 0, _ => go_simp; rfl | 1, _ => go_simp; rfl | 2, _ => go_simp; rfl | 3, _ => go_simp; rfl | 4, _ => go_simp; rfl | 5, _ => go_simp; rfl | 6, _ => go_simp; rfl | 7, _ => go_simp; rfl | 8, _ => go_simp; rfl
  generalize World.alloc _ (.cells #[.string ⟨#[50]⟩, .string ⟨#[50, 51]⟩, .string ⟨#[50, 51, 50]⟩, .string ⟨#[50, 50, 51, 50, 51]⟩, .string ⟨#[51, 51, 50, 51]⟩, .string ⟨#[50, 51, 51, 50, 51, 50, 51]⟩, .string ⟨#[]⟩, .string ⟨#[54]⟩, .string ⟨#[120]⟩] 9) = W1 at HK1 HS1 HC hzw ⊢
  refine (some_any w.heap.size 0 (w.heap.size + 1) 9 9 nineDigs (fun s => s.length ≤ 100) _ HS1.out (by omega) (by omega) (by omega) (by omega) (by omega) HC.out (fun i _ => nine_short i)).mono ?_
  rintro e w1 ⟨d, rfl, hd, hst1, hk1⟩
  have HS2 := Lib.hid hst1
  have HK2 := Lib.hid (HK1.out.trans hk1)
  clear hst1 hk1 HK1 HS1 HC hzw
  as_aux_lemma =>
    go_wp2_with fail
    refine (wordList_any w.heap.size (0 + 1) _ HS2.out (by omega)).mono ?_
    rintro e w2 ⟨v2, l, rfl, ho2, hl11, hsh, hst2, hk2⟩
    have HK3 := Lib.hid (HK2.out.trans hk2)
    have HSH := Lib.hid hsh
    obtain ⟨a2, c2, rfl, hrow⟩ := WRow.own ho2 (by omega)
    have HR := Lib.hid hrow
    have hd' : d.length ≤ 100 := hd
    have HEND : Hid (∀ w9, Below w2.heap.size w2 w9 → Below w.heap.size w w9) := fun w9 h9 => law_end (HK3.out.trans (Keeps.of_below h9))
    clear ho2 hsh hst2 hk2 hrow hd HS0 HS2 HK2 HK3
    generalize l.length = n at HR hl11 ⊢
    as_aux_lemma =>
      go_wp2_with fail
      refine (words_any _ d hd' a2 n c2 l HR.out HSH.out).mono ?_
      rintro e w3 ⟨v3, is, err, xs, rfl, ho3, hb3, hs3⟩
      have HB3 := Lib.hid hb3
      have HO3 := Lib.hid ho3
      have HS3 := Lib.hid hs3
      clear hb3 ho3 hs3
      as_aux_lemma =>
        go_wp2_with fail
        refine (wordsFault_any _ d hd' a2 n c2 l (HR.out.below HB3.out) HSH.out).mono ?_
        rintro e w4 ⟨f, rfl, hf, hb4⟩
        have HB4 := Lib.hid (ext_trans HB3.out hb4)
        have HO4 := Lib.hid (own_keep HO3.out hb4)
        have HF := Lib.hid hf
        obtain ⟨a3, c3, rfl⟩ := own_shape HO4.out
        have HEF : Hid (err = f) := by
          show _ = _
          have h1 := HF.out
          rcases HS3.out with ⟨h2, h3, -⟩ | ⟨h2, c, h3, h4, -⟩
          · rw [if_pos h2] at h1; rw [h1, h3]
          · rw [if_neg (by rw [h2]; decide)] at h1; rw [h4]; exact h3.one h1
        clear hb4 hf HB3 HO3
        by_cases h0 : f = 0
        · subst h0
          have HE0 : Hid (err = 0) := HEF.out
          have HD1 : Hid (digitsB d 1 30 = true) := by
            show _ = _
            cases hq : digitsB d 1 30 with
            | true => rfl
            | false => have h1 := HF.out; rw [if_pos hq] at h1; cases h1
          have HSAY : Hid (WSay l 0) := by
            have h1 := HF.out
            rw [if_neg (by rw [HD1.out]; decide)] at h1
            exact h1
          have HFO : Hid (Found l d is xs) := by
            rcases HS3.out with ⟨h2, -⟩ | ⟨h2, c, h3, h4, h5⟩
            · rw [HD1.out] at h2; cases h2
            · rcases h5 with ⟨h6, -⟩ | ⟨-, h6⟩
              · exact absurd (h4.symm.trans HE0.out) h6
              · exact h6
          obtain rfl : err = 0 := HE0.out
          obtain ⟨hne, -, hky⟩ := right_words HSAY.out
          have HNE := Lib.hid hne
          have HKY := Lib.hid hky
          have hdl : 1 ≤ d.length ∧ d.length ≤ 30 := by
            have h1 := (digitsB_iff d 1 30).1 HD1.out
            omega
          have HDL := Lib.hid hdl
          have HXL : Hid (xs.length ≤ 30) := by
            show _ ≤ _
            rcases HFO.out with ⟨-, t, h1, -⟩ | ⟨-, rfl, -⟩
            · have h2 := good_len HNE.out h1.1
              have := h1.1.1
              omega
            · simp
          clear hne hky hdl HE0 HEF HF HS3
          as_aux_lemma =>
            go_wp2_with fail
            refine (wordsOf_any _ d HDL.out.1 HDL.out.2 a2 n c2 l (HR.out.below HB4.out) HNE.out HKY.out).mono ?_
            rintro e w5 ⟨v5, has, ys, rfl, ho5, hb5, hf5⟩
            obtain ⟨rfl, hxy⟩ := HFO.out.one hf5
            have HXY := Lib.hid hxy
            have HB5 := Lib.hid (ext_trans HB4.out hb5)
            have HO5 := Lib.hid (own_keep HO4.out hb5)
            have HO6 := Lib.hid ho5
            have hxl := HXL.out
            generalize hnx : xs.length = nx at HO5 hxl ⊢
            have HNX := Lib.hid hnx
            clear ho5 hb5 hf5 hxy HO4 HB4 hnx
            as_aux_lemma =>
              go_wp2_with fail
              refine (equal_words (n := nx) HO5.out HO6.out HXY.out (by omega)).mono ?_
              rintro e w6 ⟨rfl, hb6⟩
              have HB6 := Lib.hid (ext_trans HB5.out hb6)
              clear hb6
              as_aux_lemma =>
                go_wp2_with fail
                refine (numbered_any _).mono ?_
                rintro e w7 ⟨rfl, hb7⟩
                have HFIN := Lib.hid (HEND.out _ (ext_trans HB6.out hb7))
                clear hb7
                go_wp2_with fail
                go_ret
                exact ⟨rfl, HFIN.out⟩
        · have HX : Hid (is = false ∧ xs = []) := by
            rcases HS3.out with ⟨-, -, h1, h2⟩ | ⟨-, c, -, h1, h2⟩
            · exact ⟨h1, h2⟩
            · rcases h2 with ⟨-, h3, h4⟩ | ⟨h3, -⟩
              · exact ⟨h3, h4⟩
              · exact absurd (HEF.out.symm.trans (h1.trans h3)) h0
          obtain ⟨rfl, rfl⟩ := HX.out
          obtain rfl : err = f := HEF.out
          have hx0 : ([] : List Wd).length = 0 := rfl
          clear HEF HX HS3 HF
          as_aux_lemma =>
            go_wp2_with fail
            refine (numbered_any _).mono ?_
            rintro e w7 ⟨rfl, hb7⟩
            have HFIN := Lib.hid (HEND.out _ (ext_trans HB4.out hb7))
            clear hb7
            go_wp2_with fail
            go_ret
            exact ⟨rfl, HFIN.out⟩
end Go.Proofs.YtbimecknmojnoaaGreatDoor
