/- What is proved here: lemmas and contracts for the statement, put together out of smaller texts (CarrDraw, CarrSep, RegionEnd, CarrRC, CarrDk). No condition beyond those stated. -/
import Derived.Test.YtppinnjdaoaddaaGreatDoorCsPkD
import Derived.Maps.AppendAt
import Derived.Deep.DeepCutAuto
import Derived.Test.YtppinnjdaoaddaaGreatDoorCsPkA
import Derived.Test.YtppinnjdaoaddaaGreatDoorCsPkB
import Derived.Test.YtppinnjdaoaddaaGreatDoorShelfRep
set_option linter.unusedVariables false
set_option linter.unusedSimpArgs false
namespace Go.Proofs.YtppinnjdaoaddaaGreatDoor
open Go.RowKit

def all13 : List (List UInt8) := [[], [49], [49, 50], [49, 50, 48], [52], [52, 57], [52, 57, 49], [52, 57, 51], [52, 57, 51, 48], [52, 57, 51, 48, 49], [52, 57, 52], [53, 53], [53, 53, 49]]
def all12 : List (List UInt8) := [[52], [52, 57], [52, 57, 48], [52, 57, 49], [52, 57, 50], [52, 57, 51], [52, 57, 52], [52, 57, 53], [52, 57, 54], [52, 57, 55], [52, 57, 56], [52, 57, 57]]
theorem all13_short (i : Nat) : (all13.getD i []).length ≤ 100 := by
  by_cases h : i < 13
  · have : ∀ j : Fin 13, (all13.getD j.val []).length ≤ 100 := by decide
    exact this ⟨i, h⟩
  · rw [List.getD_eq_getElem?_getD, List.getElem?_eq_none (by show 13 ≤ i; omega)]; exact Nat.zero_le _
theorem all12_short (i : Nat) : (all12.getD i []).length ≤ 100 := by
  by_cases h : i < 12
  · have : ∀ j : Fin 12, (all12.getD j.val []).length ≤ 100 := by decide
    exact this ⟨i, h⟩
  · rw [List.getD_eq_getElem?_getD, List.getElem?_eq_none (by show 12 ≤ i; omega)]; exact Nat.zero_le _
/-- What lies in memory while a deck is made: the place of the result, the deck's box, the names. -/
structure RD (S F D A n : Nat) (names : List (List UInt8)) (f s l st : Int) (v : Value) (w : World) : Prop where
  room : Room w F 5
  box : DBox w D f s l st v
  nam : Names w A n names
theorem RD.keeps {S F D A n : Nat} {names : List (List UInt8)} {f s l st : Int} {v : Value} {w w' : World} (h : RD S F D A n names f s l st v w) (hk : Keeps S w w') (h1 : F ≠ S) (h2 : D ≠ S) (h3 : A ≠ S) : RD S F D A n names f s l st v w' :=
  ⟨h.room.keeps hk h1, h.box.keeps hk h2, h.nam.keeps hk h3⟩
theorem RD.grown {S F D A n : Nat} {names : List (List UInt8)} {f s l st : Int} {v : Value} {w w' : World} {row : Option Nat} (h : RD S F D A n names f s l st v w) (hg : w.grownBy w' row) (h1 : row ≠ some F) (h2 : row ≠ some D) (h3 : row ≠ some A) : RD S F D A n names f s l st v w' :=
  ⟨h.room.grown hg h1, h.box.grown hg h2, h.nam.grown hg h3⟩
theorem RD.far {S F D A n : Nat} {names : List (List UInt8)} {f s l st : Int} {v : Value} {w : World} (h : RD S F D A n names f s l st v w) {B o : Nat} (hD : B ≠ D) (hA : B ≠ A) (u : Value) : RD S F D A n names f s l st v (w.setCell ⟨B, o, none⟩ u) :=
  ⟨h.room.set B o u, h.box.far hD u, h.nam.set hA u⟩
theorem RD.setv {S F D A n : Nat} {names : List (List UInt8)} {f s l st : Int} {v : Value} {w : World} (h : RD S F D A n names f s l st v w) (hA : D ≠ A) (u : Value) : RD S F D A n names f s l st u (w.setCell ⟨D, 4, none⟩ u) :=
  ⟨h.room.set D 4 u, h.box.s4 u, h.nam.set hA u⟩

set_option maxRecDepth 100000 in
set_option maxHeartbeats 4000000 in
theorem rightDeck_any (S k : Nat) (w : World) (h : StreamOk w S k) (hk : k ≤ 1000000) (f : Int) (hf : -2000000000000 ≤ f ∧ f ≤ 2000000000000) : Calls Tryz.prog 52 #[.pointer (some ⟨S, 0, none⟩), .int .i64 f] w (RDeckPost S (k + 43) w) := by
  obtain ⟨i1, hi1, hy0, hy1, hy2⟩ := info_parts Tryz.infoRate
  have HS := Lib.hid h
  have hSl := h.lt
  clear h
  go_enter Tryz.func52, Tryz.ntmps52
  go_upto_region 1 with (fail)
  have HF0 : Hid (Room (w.alloc (.cells #[.int .i64 0, .int .i64 0, .int .i64 0, .int .i64 0, .slice none 0 0] 63)) w.heap.size 5) := ⟨by simp, box_th (heap_new _ _)⟩
  have HS0 : Hid (StreamOk (w.alloc (.cells #[.int .i64 0, .int .i64 0, .int .i64 0, .int .i64 0, .slice none 0 0] 63)) S k) := HS.out.below (ext_alloc (Below.refl _ _))
  have HK0 : Hid (Keeps S w (w.alloc (.cells #[.int .i64 0, .int .i64 0, .int .i64 0, .int .i64 0, .slice none 0 0] 63))) := (Keeps.refl _ _).alloc _
  generalize w.alloc (.cells #[.int .i64 0, .int .i64 0, .int .i64 0, .int .i64 0, .slice none 0 0] 63) = w0 at HF0 HS0 HK0 ⊢
  obtain ⟨F, hF⟩ : ∃ F, F = w.heap.size := ⟨_, rfl⟩
  rw [← hF] at HF0 ⊢
  have hFS : F ≠ S := by omega
  have hSF : S + 1 ≤ F := by omega
  have HFW := Lib.hid hF
  clear hF HS
  as_aux_lemma =>
    go_wp2_with (first | (refine wpList_val rfl (bs_i4 _ (fun _ => rfl) _ _ _ _ _ _ rfl) ?_))
    refine (pick_lit S k [0, 0, 5, 100] (fun x => 0 ≤ x ∧ x ≤ 100) _ _ _ HS0.out (by omega) rfl rfl (by decide) (by decide) (by decide)).mono ?_
    rintro e w1 ⟨ps, rfl, ⟨ps0, ps1⟩, hst1, hk1⟩
    have HS1 := Lib.hid hst1
    have HK1 := Lib.hid (HK0.out.trans hk1)
    have HF1 := Lib.hid (HF0.out.keeps hk1 hFS)
    clear hst1 hk1 HS0 HK0 HF0
    as_aux_lemma =>
      go_wp2_with (first | (refine wpList_val rfl (bs_i3 _ (fun _ => rfl) _ _ _ _ _ rfl) ?_))
      refine (pick_lit S (k + 1) [0, 30000, 60000] (fun x => 0 ≤ x ∧ x ≤ 60000) _ _ _ HS1.out (by omega) rfl rfl (by decide) (by decide) (by decide)).mono ?_
      rintro e w2 ⟨pl, rfl, ⟨pl0, pl1⟩, hst2, hk2⟩
      have HS2 := Lib.hid hst2
      have HK2 := Lib.hid (HK1.out.trans hk2)
      have HF2 := Lib.hid (HF1.out.keeps hk2 hFS)
      clear hst2 hk2 HS1 HK1 HF1
      as_aux_lemma =>
        go_wp2_with (first | (refine wpList_val rfl (bs_i3 _ (fun _ => rfl) _ _ _ _ _ rfl) ?_))
        refine (pick_lit S (k + 1 + 1) [1, 1000, 60000] (fun x => 1 ≤ x ∧ x ≤ 60000) _ _ _ HS2.out (by omega) rfl rfl (by decide) (by decide) (by decide)).mono ?_
        rintro e w3 ⟨pt, rfl, ⟨pt0, pt1⟩, hst3, hk3⟩
        have HS3 := Lib.hid hst3
        have HK3 := Lib.hid (HK2.out.trans hk3)
        have HF3 := Lib.hid (HF2.out.keeps hk3 hFS)
        clear hst3 hk3 HS2 HK2 HF2
        as_aux_lemma =>
          go_upto_region 2 with (fail)
          have HD4 : Hid (DBox (w3.alloc (.cells #[.int .i64 f, .int .i64 ps, .int .i64 pl, .int .i64 pt, .slice none 0 0] 63)) w3.heap.size f ps pl pt (.slice none 0 0)) := ⟨by simp, by go_simp, by go_simp, by go_simp, by go_simp, by go_simp, fun j => by go_simp⟩
          have HF4 : Hid (Room (w3.alloc (.cells #[.int .i64 f, .int .i64 ps, .int .i64 pl, .int .i64 pt, .slice none 0 0] 63)) F 5) := HF3.out.below (ext_alloc (Below.refl _ _))
          have HS4 : Hid (StreamOk (w3.alloc (.cells #[.int .i64 f, .int .i64 ps, .int .i64 pl, .int .i64 pt, .slice none 0 0] 63)) S (k + 3)) := HS3.out.below (ext_alloc (Below.refl _ _))
          have HK4 : Hid (Keeps S w (w3.alloc (.cells #[.int .i64 f, .int .i64 ps, .int .i64 pl, .int .i64 pt, .slice none 0 0] 63))) := HK3.out.alloc _
          have hS3 := HS3.out.lt
          have hw3 := HK3.out.size
          have hF3 := HF3.out.lt
          generalize w3.alloc (.cells #[.int .i64 f, .int .i64 ps, .int .i64 pl, .int .i64 pt, .slice none 0 0] 63) = w4 at HD4 HF4 HS4 HK4 ⊢
          obtain ⟨D, hD⟩ : ∃ D, D = w3.heap.size := ⟨_, rfl⟩
          rw [← hD] at HD4 ⊢
          have hDS : D ≠ S := by omega
          have hFD : F ≠ D := by omega
          have hDw : w.heap.size ≤ D := by omega
          clear hD hw3 hF3 hS3 HK3 HF3 HS3
          as_aux_lemma =>
            go_wp2_with (first | (refine wpList_val rfl (bs_s13 _ (fun _ => rfl) _ _ _ _ _ _ _ _ _ _ _ _ _ _ _ rfl) ?_))
            have hS4 := HS4.out.lt
            have HN5 : Hid (Names (w4.alloc (.cells #[.string ⟨#[]⟩, .string ⟨#[49]⟩, .string ⟨#[49, 50]⟩, .string ⟨#[49, 50, 48]⟩, .string ⟨#[52]⟩, .string ⟨#[52, 57]⟩, .string ⟨#[52, 57, 49]⟩, .string ⟨#[52, 57, 51]⟩, .string ⟨#[52, 57, 51, 48]⟩, .string ⟨#[52, 57, 51, 48, 49]⟩, .string ⟨#[52, 57, 52]⟩, .string ⟨#[53, 53]⟩, .string ⟨#[53, 53, 49]⟩] 9)) w4.heap.size 13 all13) := names_new w4 all13 _ rfl _ rfl
            have HK45 : Hid (Keeps S w4 (w4.alloc (.cells #[.string ⟨#[]⟩, .string ⟨#[49]⟩, .string ⟨#[49, 50]⟩, .string ⟨#[49, 50, 48]⟩, .string ⟨#[52]⟩, .string ⟨#[52, 57]⟩, .string ⟨#[52, 57, 49]⟩, .string ⟨#[52, 57, 51]⟩, .string ⟨#[52, 57, 51, 48]⟩, .string ⟨#[52, 57, 51, 48, 49]⟩, .string ⟨#[52, 57, 52]⟩, .string ⟨#[53, 53]⟩, .string ⟨#[53, 53, 49]⟩] 9))) := (Keeps.refl _ _).alloc _
            have HS5 : Hid (StreamOk (w4.alloc (.cells #[.string ⟨#[]⟩, .string ⟨#[49]⟩, .string ⟨#[49, 50]⟩, .string ⟨#[49, 50, 48]⟩, .string ⟨#[52]⟩, .string ⟨#[52, 57]⟩, .string ⟨#[52, 57, 49]⟩, .string ⟨#[52, 57, 51]⟩, .string ⟨#[52, 57, 51, 48]⟩, .string ⟨#[52, 57, 51, 48, 49]⟩, .string ⟨#[52, 57, 52]⟩, .string ⟨#[53, 53]⟩, .string ⟨#[53, 53, 49]⟩] 9)) S (k + 3)) := HS4.out.below (ext_alloc (Below.refl _ _))
            generalize w4.alloc (.cells #[.string ⟨#[]⟩, .string ⟨#[49]⟩, .string ⟨#[49, 50]⟩, .string ⟨#[49, 50, 48]⟩, .string ⟨#[52]⟩, .string ⟨#[52, 57]⟩, .string ⟨#[52, 57, 49]⟩, .string ⟨#[52, 57, 51]⟩, .string ⟨#[52, 57, 51, 48]⟩, .string ⟨#[52, 57, 51, 48, 49]⟩, .string ⟨#[52, 57, 52]⟩, .string ⟨#[53, 53]⟩, .string ⟨#[53, 53, 49]⟩] 9) = w5 at HN5 HK45 HS5 ⊢
            have hD4 := HD4.out.lt
            have hF4 := HF4.out.lt
            obtain ⟨A, hA⟩ : ∃ A, A = w4.heap.size := ⟨_, rfl⟩
            rw [← hA] at HN5 ⊢
            have hAS : A ≠ S := by omega
            have hAD : D ≠ A := by omega
            have hAF : A ≠ F := by omega
            have HRD5 : Hid (RD S F D A 13 all13 f ps pl pt (.slice none 0 0) w5) := ⟨HF4.out.keeps HK45.out hFS, HD4.out.keeps HK45.out hDS, HN5.out⟩
            have HK5 := Lib.hid (HK4.out.trans HK45.out)
            have hAw : w.heap.size ≤ A := by omega
            clear hA hS4 hD4 hF4 HN5 HK45 HS4 HD4 HF4 HK4
            refine (flip_any S (k + 3) 4 _ HS5.out (by omega) (by decide) (by decide)).mono ?_
            rintro e w6 ⟨fl, rfl, hst6, hk6⟩
            have HS6 := Lib.hid hst6
            have HK6 := Lib.hid (HK5.out.trans hk6)
            have HR6 := Lib.hid (HRD5.out.keeps hk6 hFS hDS hAS)
            clear hst6 hk6 HS5 HK5 HRD5
            as_aux_lemma =>
              go_upto_if 23 with (fail)
              go_cut [6] (fun v wx => ∃ (B n : Nat) (names : List (List UInt8)), v = .slice (some ⟨B, 0, none⟩) n n ∧ n ≤ 13 ∧ B ≠ S ∧ D ≠ B ∧ B ≠ F ∧ w.heap.size ≤ B ∧ Hid (∀ i, (names.getD i []).length ≤ 100) ∧ Hid (RD S F D B n names f ps pl pt (.slice none 0 0) wx) ∧ Hid (StreamOk wx S (k + 4)) ∧ Hid (Keeps S w wx))
              case first =>
                cases fl
                · skip
                  as_aux_lemma =>
                    go_wp2_with fail
                    go_meet
                    exact ⟨A, 13, all13, rfl, by omega, hAS, hAD, hAF, hAw, all13_short, HR6.out, HS6.out, HK6.out⟩
                · skip
                  as_aux_lemma =>
                    go_wp2_with (first | (refine wpList_val rfl (bs_s12 _ (fun _ => rfl) _ _ _ _ _ _ _ _ _ _ _ _ _ _ rfl) ?_))
                    have HN7 : Hid (Names (w6.alloc (.cells #[.string ⟨#[52]⟩, .string ⟨#[52, 57]⟩, .string ⟨#[52, 57, 48]⟩, .string ⟨#[52, 57, 49]⟩, .string ⟨#[52, 57, 50]⟩, .string ⟨#[52, 57, 51]⟩, .string ⟨#[52, 57, 52]⟩, .string ⟨#[52, 57, 53]⟩, .string ⟨#[52, 57, 54]⟩, .string ⟨#[52, 57, 55]⟩, .string ⟨#[52, 57, 56]⟩, .string ⟨#[52, 57, 57]⟩] 9)) w6.heap.size 12 all12) := names_new w6 all12 _ rfl _ rfl
                    have HK67 : Hid (Keeps S w6 (w6.alloc (.cells #[.string ⟨#[52]⟩, .string ⟨#[52, 57]⟩, .string ⟨#[52, 57, 48]⟩, .string ⟨#[52, 57, 49]⟩, .string ⟨#[52, 57, 50]⟩, .string ⟨#[52, 57, 51]⟩, .string ⟨#[52, 57, 52]⟩, .string ⟨#[52, 57, 53]⟩, .string ⟨#[52, 57, 54]⟩, .string ⟨#[52, 57, 55]⟩, .string ⟨#[52, 57, 56]⟩, .string ⟨#[52, 57, 57]⟩] 9))) := (Keeps.refl _ _).alloc _
                    have HS7 : Hid (StreamOk (w6.alloc (.cells #[.string ⟨#[52]⟩, .string ⟨#[52, 57]⟩, .string ⟨#[52, 57, 48]⟩, .string ⟨#[52, 57, 49]⟩, .string ⟨#[52, 57, 50]⟩, .string ⟨#[52, 57, 51]⟩, .string ⟨#[52, 57, 52]⟩, .string ⟨#[52, 57, 53]⟩, .string ⟨#[52, 57, 54]⟩, .string ⟨#[52, 57, 55]⟩, .string ⟨#[52, 57, 56]⟩, .string ⟨#[52, 57, 57]⟩] 9)) S (k + 4)) := HS6.out.below (ext_alloc (Below.refl _ _))
                    have hS6 := HS6.out.lt
                    have hD6 := HR6.out.box.lt
                    have hF6 := HR6.out.room.lt
                    have hw6 := HK6.out.size
                    generalize w6.alloc (.cells #[.string ⟨#[52]⟩, .string ⟨#[52, 57]⟩, .string ⟨#[52, 57, 48]⟩, .string ⟨#[52, 57, 49]⟩, .string ⟨#[52, 57, 50]⟩, .string ⟨#[52, 57, 51]⟩, .string ⟨#[52, 57, 52]⟩, .string ⟨#[52, 57, 53]⟩, .string ⟨#[52, 57, 54]⟩, .string ⟨#[52, 57, 55]⟩, .string ⟨#[52, 57, 56]⟩, .string ⟨#[52, 57, 57]⟩] 9) = w7 at HN7 HK67 HS7 ⊢
                    have HR7 : Hid (RD S F D w6.heap.size 12 all12 f ps pl pt (.slice none 0 0) w7) := ⟨HR6.out.room.keeps HK67.out hFS, HR6.out.box.keeps HK67.out hDS, HN7.out⟩
                    go_meet
                    exact ⟨w6.heap.size, 12, all12, rfl, by omega, by omega, by omega, by omega, by omega, all12_short, HR7.out, HS7.out, HK6.out.trans HK67.out⟩
              case rest =>
                clear HS6 HK6 HR6 hAS hAD hAF hAw
                obtain ⟨B, n, names, rfl, hn, hBS, hDB, hBF, hBw, HSH, HR7, HS7, HK7⟩ := hcut
                skip
                as_aux_lemma =>
                  go_wp2_with fail
                  have hSc := HS7.out.lt
                  have hFc := HR7.out.room.lt
                  have hDc := HR7.out.box.lt
                  have hBc := HR7.out.nam.lt
                  obtain ⟨WB, hWB⟩ : ∃ x, x = wc.heap.size := ⟨_, rfl⟩
                  have hwW : w.heap.size ≤ WB := by rw [hWB]; exact HK7.out.size
                  rw [← hWB] at hSc hFc hDc hBc
                  have hWc : WB ≤ wc.heap.size := Nat.le_of_eq hWB
                  clear hWB
                  go_loopw [27] (fun it wr => ∃ (i : Nat) (v : Value) (rates : List Rate), i ≤ n ∧ it = .int .i64 i ∧ rates.length ≤ i ∧ Hid (RatesIn rates) ∧ Hid (wr.ownsRow WB 120 3 v rates.length ((rates.map Rate.cells).flatten)) ∧ WB ≤ wr.heap.size ∧ Hid (RD S F D B n names f ps pl pt v wr) ∧ Hid (StreamOk wr S (k + 4 + 3 * i)) ∧ Hid (Keeps S w wr)) (fun it _ => n - (intOf it).toNat)
                  case atStart => exact ⟨0, .slice none 0 0, [], Nat.zero_le _, rfl, Nat.le_refl _, (fun r hr => by cases hr), World.ownsRow_nil _ _ _ _, hWc, HR7.out, HS7.out, HK7.out⟩
                  case round =>
                    clear HR7 HS7 HK7
                    obtain ⟨i, v, rates, hi, rfl, hrl, HRI, HOW, hWr, HR, HSr, HKr⟩ := hrel
                    by_cases hlt : i < n
                    · have c0 := HR.out.nam.at_ i hlt
                      have hpl := HSH.out i
                      generalize names.getD i [] = nm at c0 hpl
                      as_aux_lemma =>
                        go_wp2_with fail
                        refine (flip_any S (k + 4 + 3 * i) 3 _ HSr.out (by omega) (by decide) (by decide)).mono ?_
                        rintro e w8 ⟨f1, rfl, hst8, hk8⟩
                        have HS8 := Lib.hid hst8
                        have HK8 := Lib.hid (HKr.out.trans hk8)
                        have HR8 := Lib.hid (HR.out.keeps hk8 hFS hDS hBS)
                        have HO8 := Lib.hid (own_keeps HOW.out hk8 hSc)
                        have hW8 : WB ≤ w8.heap.size := Nat.le_trans hWr hk8.size
                        clear hst8 hk8 HSr HKr HR HOW c0 hWr
                        cases f1
                        case true =>
                          skip
                          as_aux_lemma =>
                            go_wp2_with fail
                            go_roundw
                            case rel => exact ⟨i + 1, v, rates, by omega, by go_num, by omega, HRI.out, HO8.out, hW8, HR8.out, HS8.out.mono (by omega), HK8.out⟩
                            case measure => simp [intOf]; omega
                        skip
                        as_aux_lemma =>
                          go_wp2_with (first | (refine wpList_val rfl (bs_i5 _ (fun _ => rfl) _ _ _ _ _ _ _ rfl) ?_))
                          refine (pick_lit S (k + 4 + 3 * i + 1) [0, 50, 100, 100, 1000] (fun x => 0 ≤ x ∧ x ≤ 1000) _ _ _ HS8.out (by omega) rfl rfl (by decide) (by decide) (by decide)).mono ?_
                          rintro e w9 ⟨pr, rfl, ⟨pr0, pr1⟩, hst9, hk9⟩
                          have HS9 := Lib.hid hst9
                          have HK9 := Lib.hid (HK8.out.trans hk9)
                          have HR9 := Lib.hid (HR8.out.keeps hk9 hFS hDS hBS)
                          have HO9 := Lib.hid (own_keeps HO8.out hk9 hSc)
                          have hW9 : WB ≤ w9.heap.size := Nat.le_trans hW8 hk9.size
                          clear hst9 hk9 HS8 HK8 HR8 HO8 hW8
                          as_aux_lemma =>
                            go_upto_region 10 with (fail)
                            have HS10 : Hid (StreamOk (w9.alloc (.cells #[.string ⟨nm.toArray⟩, .int .i64 pr, .bool false] 120)) S (k + 4 + 3 * i + 2)) := HS9.out.below (ext_alloc (Below.refl _ _))
                            have hk10 : Keeps S w9 (w9.alloc (.cells #[.string ⟨nm.toArray⟩, .int .i64 pr, .bool false] 120)) := (Keeps.refl _ _).alloc _
                            have HK10 := Lib.hid (HK9.out.trans hk10)
                            have HR10 := Lib.hid (HR9.out.keeps hk10 hFS hDS hBS)
                            have HO10 := Lib.hid (own_keeps HO9.out hk10 hSc)
                            obtain ⟨a0, a1, a2⟩ : (w9.alloc (.cells #[.string ⟨nm.toArray⟩, .int .i64 pr, .bool false] 120)).cell? ⟨w9.heap.size, 0, none⟩ = some (.string ⟨nm.toArray⟩) ∧ (w9.alloc (.cells #[.string ⟨nm.toArray⟩, .int .i64 pr, .bool false] 120)).cell? ⟨w9.heap.size, 1, none⟩ = some (.int .i64 pr) ∧ (w9.alloc (.cells #[.string ⟨nm.toArray⟩, .int .i64 pr, .bool false] 120)).cell? ⟨w9.heap.size, 2, none⟩ = some (.bool false) := ⟨by go_simp, by go_simp, by go_simp⟩
                            have af : ∀ j, (w9.alloc (.cells #[.string ⟨nm.toArray⟩, .int .i64 pr, .bool false] 120)).frozen? ⟨w9.heap.size, j, none⟩ = false := fun j => by go_simp
                            have hRl : w9.heap.size < (w9.alloc (.cells #[.string ⟨nm.toArray⟩, .int .i64 pr, .bool false] 120)).heap.size := by simp
                            have hRD : w9.heap.size ≠ D := by have := HR9.out.box.lt; omega
                            have hRB : w9.heap.size ≠ B := by have := HR9.out.nam.lt; omega
                            have hRS : w9.heap.size ≠ S := by have := HS9.out.lt; omega
                            have hRv : v.ownBlock ≠ some w9.heap.size := fun e => by have := (HO9.out.lt _ e).2; omega
                            have hRw : w.heap.size ≤ w9.heap.size := HK9.out.size
                            generalize w9.alloc (.cells #[.string ⟨nm.toArray⟩, .int .i64 pr, .bool false] 120) = w10 at HS10 hk10 HK10 HR10 HO10 a0 a1 a2 af hRl ⊢
                            have hW10 : WB ≤ w10.heap.size := Nat.le_trans hW9 hk10.size
                            generalize w9.heap.size = R at a0 a1 a2 af hRl hRD hRB hRS hRv hRw ⊢
                            clear hk10 HS9 HK9 HR9 HO9 hW9
                            as_aux_lemma =>
                              go_wp2_with fail
                              refine (flip_any S (k + 4 + 3 * i + 2) 6 _ HS10.out (by omega) (by decide) (by decide)).mono ?_
                              rintro e w11 ⟨f2, rfl, hst11, hk11⟩
                              have HS11 := Lib.hid hst11
                              have HK11 := Lib.hid (HK10.out.trans hk11)
                              have HR11 := Lib.hid (HR10.out.keeps hk11 hFS hDS hBS)
                              have HO11 := Lib.hid (own_keeps HO10.out hk11 hSc)
                              have e0 := (hk11.cell (p := ⟨R, 0, none⟩) hRl hRS).trans a0
                              have e1 := (hk11.cell (p := ⟨R, 1, none⟩) hRl hRS).trans a1
                              have e2 := (hk11.cell (p := ⟨R, 2, none⟩) hRl hRS).trans a2
                              have ef : ∀ j, w11.frozen? ⟨R, j, none⟩ = false := fun j => (hk11.frozen (p := ⟨R, j, none⟩) hRl hRS).trans (af j)
                              have hW11 : WB ≤ w11.heap.size := Nat.le_trans hW10 hk11.size
                              have hR11 : R < w11.heap.size := Nat.lt_of_lt_of_le hRl hk11.size
                              clear hst11 hk11 HS10 HK10 HR10 HO10 hW10 a0 a1 a2 af hRl
                              cases f2
                              · skip
                                as_aux_lemma =>
                                  go_upto_region 12 with (fail)
                                  obtain ⟨wX, rfl⟩ : ∃ wX : World, wX = w11 := ⟨_, rfl⟩
                                  have HSX := HS11
                                  have HKX := HK11
                                  have HRX := HR11
                                  have HOX := HO11
                                  clear HS11 HK11 HR11 HO11
                                  obtain ⟨hDl, z0, z1, z2, z3, z4, zf⟩ := HRX.out.box
                                  have hk12 : Keeps S wX (wX.alloc (.cells #[.string ⟨nm.toArray⟩, .int .i64 pr, .bool false] 120)) := (Keeps.refl _ _).alloc _
                                  have HOA := Lib.hid (HOX.out.alloc (.cells #[.string ⟨nm.toArray⟩, .int .i64 pr, .bool false] 120))
                                  have HRA := Lib.hid (HRX.out.keeps hk12 hFS hDS hBS)
                                  have hvF : v.ownBlock ≠ some F := fun e => by have := (HOX.out.lt _ e).1; omega
                                  have hvD : v.ownBlock ≠ some D := fun e => by have := (HOX.out.lt _ e).1; omega
                                  have hvB : v.ownBlock ≠ some B := fun e => by have := (HOX.out.lt _ e).1; omega
                                  have hvS : ∀ b, v.ownBlock = some b → WB ≤ b := fun b e => (HOX.out.lt _ e).1
                                  clear hk12
                                  as_aux_lemma =>
                                    go_wp2_with (first | (refine wpList_val rfl (bs_r1 _ _ _ 45 ⟨nm.toArray⟩ pr false rfl rfl) ?_) | (at_builtin; refine wpList_append_own_at _ rfl (.tmp 44) (.tmp 46) 61 rfl WB 120 i1 _ 3 32 Tryz.underlying61 hi1 hy0 hy1 hy2 rfl (by omega) v rates.length _ rfl HOA.out ⟨wX.heap.size, 0, none⟩ 1 1 [.string ⟨nm.toArray⟩, .int .i64 pr, .bool false] rfl rfl (fun j u hj => by rw [add0]; match j, hj with | 0, hj => simp at hj; subst hj; go_simp | 1, hj => simp at hj; subst hj; go_simp | 2, hj => simp at hj; subst hj; go_simp) (by simp [Value.oneCell']) (by simp only [maxLen]; omega) (by omega) (by simp; omega) ?_; intro v12 w12 hown12 hgr12 _ _; have HR12 := Lib.hid (HRA.out.grown hgr12 hvF hvD hvB); obtain ⟨a12, c12, rfl⟩ := own_shape hown12; clear z0 z1 z2 z3 z4 zf; obtain ⟨hDm, z0, z1, z2, z3, z4, zf⟩ := HR12.out.box))
                                    have HK12 : Hid (Keeps S w w12) := HKX.out.grown hgr12 (fun b e => Nat.le_trans hwW (hvS b e))
                                    have HS12 : Hid (StreamOk w12 S (k + 4 + 3 * i + 3)) := HSX.out.upto (upto_grown hgr12 (by omega) (fun b e => by have := hvS b e; omega))
                                    have hW12 : WB ≤ w12.heap.size := by have := hgr12.size; simp at this; omega
                                    have HO12 : Hid (w12.ownsRow WB 120 3 (.slice a12 (rates.length + 1) c12) (rates ++ [Rate.mk nm pr false]).length (((rates ++ [Rate.mk nm pr false]).map Rate.cells).flatten)) := by
                                      show World.ownsRow _ _ _ _ _ _ _
                                      rw [rcells_snoc, List.length_append]
                                      exact hown12
                                    have hv12 : (Value.slice a12 (rates.length + 1) c12).ownBlock ≠ some D := fun e => by have := (HO12.out.lt _ e).1; omega
                                    go_roundw
                                    case rel => exact ⟨i + 1, .slice a12 (rates.length + 1) c12, rates ++ [Rate.mk nm pr false], by omega, by go_num, by rw [List.length_append, List.length_singleton]; omega, rates_snoc HRI.out hpl (by show -2000000000000 ≤ (pr : Int); omega) (by show (pr : Int) ≤ 2000000000000; omega), own_set HO12.out hv12, by simpa using hW12, HR12.out.setv hDB _, (HS12.out.mono (by omega)).upto ((Below.refl (S + 1) w12).setCell (p := ⟨D, 4, none⟩) (by show S + 1 ≤ D; omega) _), HK12.out.setCell_new (p := ⟨D, 4, none⟩) hDw _⟩
                                    case measure => simp [intOf]; omega
                              · have HSY : Hid (StreamOk ((w11.setCell ⟨R, 1, none⟩ (.int .i64 0)).setCell ⟨R, 2, none⟩ (.bool true)) S (k + 4 + 3 * i + 3)) := HS11.out.upto (((Below.refl (S + 1) w11).setCell (p := ⟨R, 1, none⟩) (by show S + 1 ≤ R; omega) _).setCell (p := ⟨R, 2, none⟩) (by show S + 1 ≤ R; omega) _)
                                have HKY : Hid (Keeps S w ((w11.setCell ⟨R, 1, none⟩ (.int .i64 0)).setCell ⟨R, 2, none⟩ (.bool true))) := (HK11.out.setCell_new (p := ⟨R, 1, none⟩) hRw _).setCell_new (p := ⟨R, 2, none⟩) hRw _
                                have HRY : Hid (RD S F D B n names f ps pl pt v ((w11.setCell ⟨R, 1, none⟩ (.int .i64 0)).setCell ⟨R, 2, none⟩ (.bool true))) := (HR11.out.far hRD hRB _).far hRD hRB _
                                have HOY : Hid (((w11.setCell ⟨R, 1, none⟩ (.int .i64 0)).setCell ⟨R, 2, none⟩ (.bool true)).ownsRow WB 120 3 v rates.length ((rates.map Rate.cells).flatten)) := own_set (own_set HO11.out hRv) hRv
                                have g0 : ((w11.setCell ⟨R, 1, none⟩ (.int .i64 0)).setCell ⟨R, 2, none⟩ (.bool true)).cell? ⟨R, 0, none⟩ = some (.string ⟨nm.toArray⟩) := by go_simp
                                have g1 : ((w11.setCell ⟨R, 1, none⟩ (.int .i64 0)).setCell ⟨R, 2, none⟩ (.bool true)).cell? ⟨R, 1, none⟩ = some (.int .i64 0) := by go_simp
                                have g2 : ((w11.setCell ⟨R, 1, none⟩ (.int .i64 0)).setCell ⟨R, 2, none⟩ (.bool true)).cell? ⟨R, 2, none⟩ = some (.bool true) := by go_simp
                                have hWX : WB ≤ ((w11.setCell ⟨R, 1, none⟩ (.int .i64 0)).setCell ⟨R, 2, none⟩ (.bool true)).heap.size := by simpa using hW11
                                have hRX : R < ((w11.setCell ⟨R, 1, none⟩ (.int .i64 0)).setCell ⟨R, 2, none⟩ (.bool true)).heap.size := by simpa using hR11
                                skip
                                as_aux_lemma =>
                                  go_upto_region 12 with (fail)
                                  clear HS11 HK11 HR11 HO11 e0 e1 e2 ef hW11 hR11
                                  generalize (w11.setCell ⟨R, 1, none⟩ (.int .i64 0)).setCell ⟨R, 2, none⟩ (.bool true) = wX at HSY HKY HRY HOY g0 g1 g2 hWX hRX ⊢
                                  have HSX := HSY
                                  have HKX := HKY
                                  have HRX := HRY
                                  have HOX := HOY
                                  have e0 := g0
                                  have e1 := g1
                                  have e2 := g2
                                  clear HSY HKY HRY HOY g0 g1 g2
                                  obtain ⟨hDl, z0, z1, z2, z3, z4, zf⟩ := HRX.out.box
                                  have hk12 : Keeps S wX (wX.alloc (.cells #[.string ⟨nm.toArray⟩, .int .i64 0, .bool true] 120)) := (Keeps.refl _ _).alloc _
                                  have HOA := Lib.hid (HOX.out.alloc (.cells #[.string ⟨nm.toArray⟩, .int .i64 0, .bool true] 120))
                                  have HRA := Lib.hid (HRX.out.keeps hk12 hFS hDS hBS)
                                  have hvF : v.ownBlock ≠ some F := fun e => by have := (HOX.out.lt _ e).1; omega
                                  have hvD : v.ownBlock ≠ some D := fun e => by have := (HOX.out.lt _ e).1; omega
                                  have hvB : v.ownBlock ≠ some B := fun e => by have := (HOX.out.lt _ e).1; omega
                                  have hvS : ∀ b, v.ownBlock = some b → WB ≤ b := fun b e => (HOX.out.lt _ e).1
                                  clear hk12
                                  as_aux_lemma =>
                                    go_wp2_with (first | (refine wpList_val rfl (bs_r1 _ _ _ 45 ⟨nm.toArray⟩ 0 true rfl rfl) ?_) | (at_builtin; refine wpList_append_own_at _ rfl (.tmp 44) (.tmp 46) 61 rfl WB 120 i1 _ 3 32 Tryz.underlying61 hi1 hy0 hy1 hy2 rfl (by omega) v rates.length _ rfl HOA.out ⟨wX.heap.size, 0, none⟩ 1 1 [.string ⟨nm.toArray⟩, .int .i64 0, .bool true] rfl rfl (fun j u hj => by rw [add0]; match j, hj with | 0, hj => simp at hj; subst hj; go_simp | 1, hj => simp at hj; subst hj; go_simp | 2, hj => simp at hj; subst hj; go_simp) (by simp [Value.oneCell']) (by simp only [maxLen]; omega) (by omega) (by simp; omega) ?_; intro v12 w12 hown12 hgr12 _ _; have HR12 := Lib.hid (HRA.out.grown hgr12 hvF hvD hvB); obtain ⟨a12, c12, rfl⟩ := own_shape hown12; clear z0 z1 z2 z3 z4 zf; obtain ⟨hDm, z0, z1, z2, z3, z4, zf⟩ := HR12.out.box))
                                    have HK12 : Hid (Keeps S w w12) := HKX.out.grown hgr12 (fun b e => Nat.le_trans hwW (hvS b e))
                                    have HS12 : Hid (StreamOk w12 S (k + 4 + 3 * i + 3)) := HSX.out.upto (upto_grown hgr12 (by omega) (fun b e => by have := hvS b e; omega))
                                    have hW12 : WB ≤ w12.heap.size := by have := hgr12.size; simp at this; omega
                                    have HO12 : Hid (w12.ownsRow WB 120 3 (.slice a12 (rates.length + 1) c12) (rates ++ [Rate.mk nm 0 true]).length (((rates ++ [Rate.mk nm 0 true]).map Rate.cells).flatten)) := by
                                      show World.ownsRow _ _ _ _ _ _ _
                                      rw [rcells_snoc, List.length_append]
                                      exact hown12
                                    have hv12 : (Value.slice a12 (rates.length + 1) c12).ownBlock ≠ some D := fun e => by have := (HO12.out.lt _ e).1; omega
                                    go_roundw
                                    case rel => exact ⟨i + 1, .slice a12 (rates.length + 1) c12, rates ++ [Rate.mk nm 0 true], by omega, by go_num, by rw [List.length_append, List.length_singleton]; omega, rates_snoc HRI.out hpl (by show -2000000000000 ≤ (0 : Int); omega) (by show (0 : Int) ≤ 2000000000000; omega), own_set HO12.out hv12, by simpa using hW12, HR12.out.setv hDB _, (HS12.out.mono (by omega)).upto ((Below.refl (S + 1) w12).setCell (p := ⟨D, 4, none⟩) (by show S + 1 ≤ D; omega) _), HK12.out.setCell_new (p := ⟨D, 4, none⟩) hDw _⟩
                                    case measure => simp [intOf]; omega
                    · obtain rfl : i = n := by omega
                      obtain ⟨ra, rc, rfl⟩ := own_shape HOW.out
                      obtain ⟨hDl, z0, z1, z2, z3, z4, zf⟩ := HR.out.box
                      have HTH := Lib.hid HR.out.room.th
                      have HC9 := Lib.hid (World.rangeAt_setCells_same wr F 0 [.int .i64 f, .int .i64 ps, .int .i64 pl, .int .i64 pt, .slice ra rates.length rc] HTH.out)
                      have HS9 : Hid (StreamOk (wr.setCells F 0 [.int .i64 f, .int .i64 ps, .int .i64 pl, .int .i64 pt, .slice ra rates.length rc]) S (k + 43)) := (HSr.out.mono (by omega)).upto (below_setCells hSF _ _ _)
                      have HK9 : Hid (Keeps S w (wr.setCells F 0 [.int .i64 f, .int .i64 ps, .int .i64 pl, .int .i64 pt, .slice ra rates.length rc])) := keeps_setCells (Nat.le_of_eq HFW.out.symm) _ _ _ HKr.out
                      have hvF : (Value.slice ra rates.length rc).ownBlock ≠ some F := fun e => by have := (HOW.out.lt _ e).1; omega
                      have HO9 : Hid ((wr.setCells F 0 [.int .i64 f, .int .i64 ps, .int .i64 pl, .int .i64 pt, .slice ra rates.length rc]).ownsRow WB 120 3 (.slice ra rates.length rc) rates.length ((rates.map Rate.cells).flatten)) := own_set (own_set (own_set (own_set (own_set HOW.out hvF) hvF) hvF) hvF) hvF
                      clear HR HOW HSr HKr HSH
                      as_aux_lemma =>
                        go_wp2_with (refine wpList_store_mid rfl 63 (.tmp 4) (.tmp 50) rfl F 0 #[.int .i64 f, .int .i64 ps, .int .i64 pl, .int .i64 pt, .slice ra rates.length rc] rfl rfl HTH.out Tryz.deckSize (by simp [Value.oneCell']) ?_; generalize World.setCells wr F 0 _ = W9 at HC9 HS9 HK9 HO9 ⊢)
                        refine bodyPost_ret (?_ : _ = Result.ok (.agg #[.int .i64 f, .int .i64 ps, .int .i64 pl, .int .i64 pt, .slice ra rates.length rc]) _) rfl ?_
                        · exact results_cell1 (t := 4) (by rfl) _ _ _ Tryz.isAgg63 Tryz.sizeOf63 (by rfl) [.int .i64 f, .int .i64 ps, .int .i64 pl, .int .i64 pt, .slice ra rates.length rc] rfl (fun j v hj => by have := HC9.out j v hj; rw [Nat.zero_add] at this; exact this)
                        exact ⟨⟨f, ps, pl, pt, ra, rates.length, rc, rates⟩, rfl, ⟨own_le HO9.out hwW, ⟨by show rates.length ≤ 100; omega, HRI.out⟩, hf, (show -2000000000000 ≤ ps ∧ ps ≤ 2000000000000 from ⟨by omega, by omega⟩), (show -2000000000000 ≤ pl ∧ pl ≤ 2000000000000 from ⟨by omega, by omega⟩), (show -2000000000000 ≤ pt ∧ pt ≤ 2000000000000 from ⟨by omega, by omega⟩)⟩, by show rates.length ≤ 13; omega, HS9.out, HK9.out⟩
end Go.Proofs.YtppinnjdaoaddaaGreatDoor

set_option linter.unusedVariables false
set_option linter.unusedSimpArgs false
namespace Go.Proofs.YtppinnjdaoaddaaGreatDoor
open Go.RowKit

/-- From a world to a later one at which more may have turned. -/
theorem KeepsIf.step {p q : Nat → Prop} {w w2 W : World} (hs : w.heap.size ≤ w2.heap.size) (hb : ∀ b, b < w.heap.size → p b → w2.heap[b]? = w.heap[b]? ∧ q b) (h : KeepsIf q w2 W) : KeepsIf p w W :=
  ⟨Nat.le_trans hs h.1, fun b k1 k2 => (h.2 b (Nat.lt_of_lt_of_le k1 hs) (hb b k1 k2).2).trans (hb b k1 k2).1⟩
def Carr.dv (c : Carr) : Value := .slice c.da c.dn c.dc
structure CFew (c : Carr) : Prop where
  few : c.decks.length ≤ 3
  key : c.key.length ≤ 100
  lines : -2000000000000 ≤ c.lines ∧ c.lines ≤ 2000000000000
/-- Decks in a row of the call's own. -/
theorem deck_row {w : World} {base : Nat} {a : Option Addr} {n c : Nat} {l : List Deck} (h : w.ownsRow base 63 5 (.slice a n c) l.length ((l.map Deck.cells).flatten)) (hf : l.length ≤ 100) (he : ∀ i, i < l.length → DeckFine w (l.getD i noDeck)) : DeckRow w a n l ∧ n ≤ c := by
  obtain ⟨h1, h2⟩ := own_caps h
  obtain ⟨a', c', e, hcs⟩ := Cells.of_own h (fun x hx => by obtain ⟨y, _, rfl⟩ := List.mem_map.1 hx; rfl) (by decide)
  injection e with e1 e2 e3
  subst e1
  subst h1
  exact ⟨⟨hcs, hf, he⟩, h2⟩
/-- Carriers, each with its decks in a row of the call's own, apart from the others' and from block vb. -/
structure CSep (base : Nat) (vb : Option Nat) (w : World) (l : List Carr) : Prop where
  own : ∀ i, i < l.length → w.ownsRow base 63 5 (l.getD i noCarr).dv (l.getD i noCarr).decks.length (((l.getD i noCarr).decks.map Deck.cells).flatten)
  few : ∀ i, i < l.length → CFew (l.getD i noCarr)
  ne : ∀ i, i < l.length → ∀ b, (l.getD i noCarr).dv.ownBlock = some b → vb ≠ some b
  sep : ∀ i, i < l.length → ∀ W, KeepsIf (fun b => base ≤ b ∧ vb ≠ some b ∧ (l.getD i noCarr).dv.ownBlock ≠ some b) w W →
    (∀ j, j < (l.getD i noCarr).decks.length → DeckFine W ((l.getD i noCarr).decks.getD j noDeck)) ∧ ∀ r, r < l.length → r ≠ i → CarrFine W (l.getD r noCarr)
theorem carr_fine {w : World} {base : Nat} {c : Carr} (h : w.ownsRow base 63 5 c.dv c.decks.length ((c.decks.map Deck.cells).flatten)) (hf : CFew c) (hd : ∀ j, j < c.decks.length → DeckFine w (c.decks.getD j noDeck)) : CarrFine w c := by
  obtain ⟨h1, h2⟩ := deck_row h (by have := hf.few; omega) hd
  exact ⟨h1, h2, hf.key, hf.lines⟩
theorem CSep.nil (base : Nat) (vb : Option Nat) (w : World) : CSep base vb w [] := ⟨(fun i hi => by cases hi), (fun i hi => by cases hi), (fun i hi => by cases hi), (fun i hi => by cases hi)⟩
theorem CSep.fine {base : Nat} {vb : Option Nat} {w : World} {l : List Carr} (h : CSep base vb w l) : CarrsIf (fun b => base ≤ b ∧ vb ≠ some b) w l := fun W hW i hi =>
  carr_fine (own_if (h.own i hi) hW (fun b e => ⟨((h.own i hi).lt b e).1, h.ne i hi b e⟩)) (h.few i hi) (h.sep i hi W (hW.weak (fun b _ k => ⟨k.1, k.2.1⟩))).1
theorem CSep.step {base : Nat} {vb vb2 : Option Nat} {w w2 : World} {l : List Carr} (h : CSep base vb w l) (hs : w.heap.size ≤ w2.heap.size) (hb : ∀ b, b < w.heap.size → base ≤ b → vb ≠ some b → w2.heap[b]? = w.heap[b]?) (hv : vb2 = vb ∨ ∀ b, vb2 = some b → w.heap.size ≤ b) : CSep base vb2 w2 l := by
  have hq : ∀ b, b < w.heap.size → vb ≠ some b → vb2 ≠ some b := fun b k1 k2 e => by
    rcases hv with rfl | h9
    · exact k2 e
    · have := h9 b e; omega
  have hk : KeepsIf (fun b => base ≤ b ∧ vb ≠ some b) w w2 := ⟨hs, fun b k1 k2 => hb b k1 k2.1 k2.2⟩
  refine ⟨fun i hi => own_if (h.own i hi) hk (fun b e => ⟨((h.own i hi).lt b e).1, h.ne i hi b e⟩), h.few, fun i hi b e => hq b ((h.own i hi).lt b e).2 (h.ne i hi b e), fun i hi W hW => ?_⟩
  exact h.sep i hi W (KeepsIf.step hs (fun b k1 k2 => ⟨hb b k1 k2.1 k2.2.1, k2.1, hq b k1 k2.2.1, k2.2.2⟩) hW)
theorem CSep.keeps {base S : Nat} {vb : Option Nat} {w w2 : World} {l : List Carr} (h : CSep base vb w l) (hk : Keeps S w w2) (hS : S < base) : CSep base vb w2 l :=
  h.step hk.size (fun b k1 k2 _ => hk.block b k1 (by omega)) (Or.inl rfl)
/-- One carrier more, whose blocks are all new. -/
theorem CSep.snoc {base base' : Nat} {vb : Option Nat} {w0 w : World} {l : List Carr} {c : Carr} (h : CSep base vb w0 l) (hk : KeepsIf (fun b => base ≤ b ∧ vb ≠ some b) w0 w) (hv : ∀ b, vb = some b → b < w0.heap.size) (hb : w0.heap.size ≤ base') (hbb : base ≤ base')
    (ho : w.ownsRow base' 63 5 c.dv c.decks.length ((c.decks.map Deck.cells).flatten)) (hf : CFew c) (hd : DecksIf (fun b => base' ≤ b ∧ c.dv.ownBlock ≠ some b) w c.decks) : CSep base vb w (l ++ [c]) := by
  have h2 : CSep base vb w l := h.step hk.1 (fun b k1 k2 k3 => hk.2 b k1 ⟨k2, k3⟩) (Or.inl rfl)
  have hvn : ∀ b, base' ≤ b → vb ≠ some b := fun b k e => by have := hv b e; omega
  have hlen : (l ++ [c]).length = l.length + 1 := by simp
  refine ⟨fun i hi => ?_, fun i hi => ?_, fun i hi => ?_, fun i hi W hW => ?_⟩
  · rw [getD_snoc]
    by_cases h1 : i < l.length
    · rw [if_pos h1]; exact h2.own i h1
    · rw [if_neg h1, if_pos (by omega)]
      exact own_if ho (KeepsIf.refl (fun _ => True) w) (fun _ _ => trivial) |>.1 |> fun k => ⟨k, ho.2.imp id (by rintro ⟨g, cap, cur, e, k1, k2, k3⟩; exact ⟨g, cap, cur, e, Nat.le_trans hbb k1, k2, k3⟩)⟩
  · rw [getD_snoc]
    by_cases h1 : i < l.length
    · rw [if_pos h1]; exact h2.few i h1
    · rw [if_neg h1, if_pos (by omega)]; exact hf
  · rw [getD_snoc]
    by_cases h1 : i < l.length
    · rw [if_pos h1]; exact h2.ne i h1
    · rw [if_neg h1, if_pos (by omega)]
      exact fun b e => hvn b (ho.lt b e).1
  · rw [getD_snoc] at hW ⊢
    by_cases h1 : i < l.length
    · rw [if_pos h1] at hW ⊢
      have hlt : ∀ b, (l.getD i noCarr).dv.ownBlock = some b → b < w0.heap.size := fun b e => ((h.own i h1).lt b e).2
      obtain ⟨k1, k2⟩ := h2.sep i h1 W hW
      refine ⟨k1, fun r hr hri => ?_⟩
      rw [getD_snoc]
      by_cases h3 : r < l.length
      · rw [if_pos h3]; exact k2 r h3 hri
      · rw [if_neg h3, if_pos (by omega)]
        have hW2 : KeepsIf (fun b => base' ≤ b) w W := hW.weak (fun b _ k => ⟨by omega, hvn b k, fun e => by have := hlt b e; omega⟩)
        exact carr_fine (own_if ho hW2 (fun b e => (ho.lt b e).1)) hf (hd W (hW2.weak (fun b _ k => k.1)))
    · rw [if_neg h1, if_pos (by omega)] at hW ⊢
      refine ⟨hd W (hW.weak (fun b _ k => ⟨by omega, hvn b k.1, k.2⟩)), fun r hr hri => ?_⟩
      rw [getD_snoc, if_pos (by omega)]
      refine h.fine W (KeepsIf.step hk.1 (fun b k1 k2 => ⟨hk.2 b k1 k2, k2.1, k2.2, fun e => ?_⟩) hW) r (by omega)
      have := (ho.lt b e).1
      omega
/-- What right carriers of a stream come to. -/
def RCarrsPost (S k : Nat) (w : World) (e : Ending) (w' : World) : Prop :=
  ∃ v l, e = .returned v ∧ w'.ownsRow w.heap.size 72 3 v l.length ((l.map Carr.cells).flatten) ∧ l.length ≤ 3 ∧ (∀ i, i < l.length → (l.getD i noCarr).decks.length ≤ 2) ∧ CSep w.heap.size v.ownBlock w' l ∧ StreamOk w' S k ∧ Keeps S w w'
theorem dcells_snoc (l : List Deck) (r : Deck) : ((l ++ [r]).map Deck.cells).flatten = (l.map Deck.cells).flatten ++ Deck.cells r := by simp
theorem ccells_snoc (l : List Carr) (r : Carr) : ((l ++ [r]).map Carr.cells).flatten = (l.map Carr.cells).flatten ++ Carr.cells r := by simp
theorem Tryz.infoDeck : (Tryz.prog.info? 63).map (fun i => (i.zero, i.size, i.bytes)) = some (some (.agg #[.int .i64 0, .int .i64 0, .int .i64 0, .int .i64 0, .slice none 0 0]), 5, 56) := by kernel_rfl
theorem Tryz.infoCarr : (Tryz.prog.info? 72).map (fun i => (i.zero, i.size, i.bytes)) = some (some (.agg #[.string ⟨#[]⟩, .int .i64 0, .slice none 0 0]), 3, 48) := by kernel_rfl
/-- One deck more, whose rates are new. -/
theorem DecksIf.deck {base : Nat} {vb vb2 : Option Nat} {wr w1 w2 : World} {S : Nat} {l : List Deck} {d : Deck} (h : DecksIf (fun b => base ≤ b ∧ vb ≠ some b) wr l) (hk : Keeps S wr w1) (hS : S < base) (hb : base ≤ wr.heap.size) (hvb : ∀ b, vb = some b → b < wr.heap.size) (hd : DeckOwn wr.heap.size w1 d)
    (hs : w1.heap.size ≤ w2.heap.size) (hg : ∀ b, b < w1.heap.size → base ≤ b → vb ≠ some b → w2.heap[b]? = w1.heap[b]?) (hv : vb2 = vb ∨ ∀ b, vb2 = some b → w1.heap.size ≤ b) : DecksIf (fun b => base ≤ b ∧ vb2 ≠ some b) w2 (l ++ [d]) := by
  have hq : ∀ b, b < w1.heap.size → vb ≠ some b → vb2 ≠ some b := fun b k1 k2 e => by
    rcases hv with rfl | h9
    · exact k2 e
    · have := h9 b e; omega
  have hst : ∀ W, KeepsIf (fun b => base ≤ b ∧ vb2 ≠ some b) w2 W → KeepsIf (fun b => base ≤ b ∧ vb ≠ some b) w1 W := fun W hW => KeepsIf.step hs (fun b k1 k2 => ⟨hg b k1 k2.1 k2.2, k2.1, hq b k1 k2.2⟩) hW
  refine DecksIf.snoc (fun W hW => h W ((KeepsIf.of_keeps hk (fun b k => by have := k.1; omega)).trans (hst W hW))) (fun W hW => ?_)
  exact (DeckOwn.ge hd ((hst W hW).weak (fun b _ k => ⟨by have : wr.heap.size ≤ b := k; omega, fun e => by have := hvb b e; have : wr.heap.size ≤ b := k; omega⟩))).fine
end Go.Proofs.YtppinnjdaoaddaaGreatDoor

namespace Go.Proofs.YtppinnjdaoaddaaGreatDoor

section
variable {P : Program} {Q : Exit → Act → World → Prop}
/-- **A region that draws, in a forced order, its last operation behind the others**: S need not hold behind that one. -/
theorem region_lastI {S : World → Prop} {id : Nat} {L : List Oper} {st : Oper} {a : Act} {w : World} (l : List (Bool × Nat)) (hm : P.follows .mixedOrders = true) (hst : L.getLast? = some st) (hg : st.guard = none) (hc : lastChk L.toArray (L.length - 1) = true)
    (hs : Region.noSelect L.dropLast.toArray = true) (hlen : l.length = L.length - 1) (hok : seqOkI L.dropLast.toArray l (Array.replicate (L.length - 1) false) = true)
    (hS : S w.drew) (h : wpSeqI P L.dropLast.toArray (lastQ P st Q) S (seqOps L.dropLast l) a w.drew) : (Code.region id L.toArray true).wp P Q a w := by
  have hd : L.dropLast.toArray.size = L.length - 1 := by simp
  refine region_last_held (S := S) (ops' := L.dropLast.toArray) (st := st) hm ?_ hg (by rw [hd]; exact hc) hS fun hS => ?_
  · obtain ⟨hne, he⟩ : ∃ hne : L ≠ [], L.getLast hne = st := by
      cases L with
      | nil => simp at hst
      | cons x xs => exact ⟨by simp, by rw [List.getLast?_eq_some_getLast (by simp)] at hst; exact Option.some.inj hst⟩
    have := List.dropLast_concat_getLast hne
    rw [he] at this
    conv => lhs; rw [← this]
    simp
  · have hok' : seqOkI L.dropLast.toArray l (Array.replicate L.dropLast.toArray.size false) = true := by rw [hd]; exact hok
    have hl : L.dropLast.toArray.size = l.length := by rw [hd, hlen]
    have := seqI_held (Q := lastQ P st Q) hs l _ a _ hok' hS h
    rw [← hl] at this
    exact this
end
end Go.Proofs.YtppinnjdaoaddaaGreatDoor

set_option linter.unusedVariables false
set_option linter.unusedSimpArgs false
namespace Go.Proofs.YtppinnjdaoaddaaGreatDoor
open Go.RowKit

theorem bs_s3 (e : Operand → Value) (he : ∀ v, e (.const v) = v) (o : Oper) (w : World) (p0 p1 p2 : ByteArray) (ho : o.op = .buildSlice 121 3 #[(0, .const (.string p0)), (1, .const (.string p1)), (2, .const (.string p2))]) :
   (execOp e o).run Tryz.prog w = .ok (.value (.slice (some ⟨w.heap.size, 0, none⟩) 3 3)) (w.alloc (.cells #[.string p0, .string p1, .string p2] 9)) := by
  unfold execOp
  rw [ho]
  simp only [List.map_toArray, List.map_cons, List.map_nil, he]
  kernel_rfl
theorem bs_d1 (e : Operand → Value) (o : Oper) (w : World) (i0 : Nat) (z1 z2 z3 z4 : Int) (a : Option Addr) (n c : Nat) (ho : o.op = .buildSlice 70 1 #[(0, .tmp i0)]) (h0 : e (.tmp i0) = .agg #[.int .i64 z1, .int .i64 z2, .int .i64 z3, .int .i64 z4, .slice a n c]) :
   (execOp e o).run Tryz.prog w = .ok (.value (.slice (some ⟨w.heap.size, 0, none⟩) 1 1)) (w.alloc (.cells #[.int .i64 z1, .int .i64 z2, .int .i64 z3, .int .i64 z4, .slice a n c] 63)) := by
  unfold execOp
  rw [ho]
  simp only [List.map_toArray, List.map_cons, List.map_nil, h0]
  kernel_rfl
theorem bs_c1 (e : Operand → Value) (o : Oper) (w : World) (i0 : Nat) (p : ByteArray) (z1 : Int) (a : Option Addr) (n c : Nat) (ho : o.op = .buildSlice 26 1 #[(0, .tmp i0)]) (h0 : e (.tmp i0) = .agg #[.string p, .int .i64 z1, .slice a n c]) :
   (execOp e o).run Tryz.prog w = .ok (.value (.slice (some ⟨w.heap.size, 0, none⟩) 1 1)) (w.alloc (.cells #[.string p, .int .i64 z1, .slice a n c] 72)) := by
  unfold execOp
  rw [ho]
  simp only [List.map_toArray, List.map_cons, List.map_nil, h0]
  kernel_rfl
/-- A carrier in a box of its own. -/
structure CBox (w : World) (C : Nat) (nm : List UInt8) (ln : Int) (v : Value) : Prop where
  lt : C < w.heap.size
  c0 : w.cell? ⟨C, 0, none⟩ = some (.string ⟨nm.toArray⟩)
  c1 : w.cell? ⟨C, 1, none⟩ = some (.int .i64 ln)
  c2 : w.cell? ⟨C, 2, none⟩ = some v
  fr : ∀ j, w.frozen? ⟨C, j, none⟩ = false
theorem CBox.keeps {w w' : World} {C S : Nat} {nm : List UInt8} {ln : Int} {v : Value} (h : CBox w C nm ln v) (hk : Keeps S w w') (hn : C ≠ S) : CBox w' C nm ln v :=
  ⟨Nat.lt_of_lt_of_le h.lt hk.size, (hk.cell (p := ⟨C, 0, none⟩) h.lt hn).trans h.c0, (hk.cell (p := ⟨C, 1, none⟩) h.lt hn).trans h.c1, (hk.cell (p := ⟨C, 2, none⟩) h.lt hn).trans h.c2, fun j => (hk.frozen (p := ⟨C, j, none⟩) h.lt hn).trans (h.fr j)⟩
theorem CBox.grown {w w' : World} {C : Nat} {nm : List UInt8} {ln : Int} {v : Value} {row : Option Nat} (h : CBox w C nm ln v) (hg : w.grownBy w' row) (hn : row ≠ some C) : CBox w' C nm ln v := by
  have hb := hg.block C h.lt (fun e => hn e.symm)
  exact ⟨Nat.lt_of_lt_of_le h.lt hg.size, (World.cell?_of_block (a := ⟨C, 0, none⟩) hb).trans h.c0, (World.cell?_of_block (a := ⟨C, 1, none⟩) hb).trans h.c1, (World.cell?_of_block (a := ⟨C, 2, none⟩) hb).trans h.c2, fun j => (World.frozen?_of_block (a := ⟨C, j, none⟩) hb).trans (h.fr j)⟩
theorem CBox.s2 {w : World} {C : Nat} {nm : List UInt8} {ln : Int} {v : Value} (h : CBox w C nm ln v) (u : Value) : CBox (w.setCell ⟨C, 2, none⟩ u) C nm ln u :=
  ⟨by simpa using h.lt, (World.cell?_setCell_other _ _ _ _ (ne_off (by decide))).trans h.c0, (World.cell?_setCell_other _ _ _ _ (ne_off (by decide))).trans h.c1, World.cell?_setCell_same _ _ _ h.c2, fun j => (World.frozen?_setCell _ _ _ _).trans (h.fr j)⟩
theorem CSep.le {base base' : Nat} {vb : Option Nat} {w : World} {l : List Carr} (h : CSep base vb w l) (hb : base' ≤ base) : CSep base' vb w l :=
  ⟨fun i hi => own_le (h.own i hi) hb, h.few, h.ne, fun i hi W hW => h.sep i hi W (hW.weak (fun b _ k => ⟨Nat.le_trans hb k.1, k.2⟩))⟩
theorem Names.keepsIf {w w' : World} {A n : Nat} {names : List (List UInt8)} {p : Nat → Prop} (h : Names w A n names) (hk : KeepsIf p w w') (hp : p A) : Names w' A n names :=
  ⟨Nat.lt_of_lt_of_le h.lt hk.1, fun i hi => (World.cell?_of_block (a := ⟨A, i, none⟩) (hk.2 A h.lt hp)).trans (h.at_ i hi)⟩
theorem KeepsIf.trans' {p q : Nat → Prop} {a b c : World} (h : KeepsIf p a b) (k : KeepsIf q b c) (hq : ∀ i, i < a.heap.size → p i → q i) : KeepsIf p a c :=
  ⟨Nat.le_trans h.1 k.1, fun i hi hp => (k.2 i (Nat.lt_of_lt_of_le hi h.1) (hq i hi hp)).trans (h.2 i hi hp)⟩
def names3 : List (List UInt8) := [[120, 97], [120, 98], [120, 99]]
theorem names3_short (i : Nat) : (names3.getD i []).length ≤ 100 := by
  match i with
  | 0 | 1 | 2 => decide
  | i + 3 => simp [names3]

set_option maxRecDepth 100000 in
set_option maxHeartbeats 8000000 in
theorem rightCarriers_any (S k : Nat) (w : World) (h : StreamOk w S k) (hk : k ≤ 500000) : Calls Tryz.prog 49 #[.pointer (some ⟨S, 0, none⟩)] w (RCarrsPost S (k + 300) w) := by
  obtain ⟨i1, hi1, hy0, hy1, hy2⟩ := info_parts Tryz.infoDeck
  obtain ⟨i2, hi2, hz0, hz1, hz2⟩ := info_parts Tryz.infoCarr
  have HS := Lib.hid h
  have hSl := h.lt
  clear h
  go_enter Tryz.func49, Tryz.ntmps49
  go_wp2_with (first | (refine wpList_val rfl (bs_s3 _ (fun _ => rfl) _ _ _ _ _ rfl) ?_))
  have HN0 : Hid (Names (w.alloc (.cells #[.string ⟨#[120, 97]⟩, .string ⟨#[120, 98]⟩, .string ⟨#[120, 99]⟩] 9)) w.heap.size 3 names3) := names_new w names3 _ rfl _ rfl
  have HS0 : Hid (StreamOk (w.alloc (.cells #[.string ⟨#[120, 97]⟩, .string ⟨#[120, 98]⟩, .string ⟨#[120, 99]⟩] 9)) S k) := HS.out.below (ext_alloc (Below.refl _ _))
  have HK0 : Hid (Keeps S w (w.alloc (.cells #[.string ⟨#[120, 97]⟩, .string ⟨#[120, 98]⟩, .string ⟨#[120, 99]⟩] 9))) := (Keeps.refl _ _).alloc _
  generalize w.alloc (.cells #[.string ⟨#[120, 97]⟩, .string ⟨#[120, 98]⟩, .string ⟨#[120, 99]⟩] 9) = w0 at HN0 HS0 HK0 ⊢
  obtain ⟨A, hA⟩ : ∃ A, A = w.heap.size := ⟨_, rfl⟩
  rw [← hA] at HN0 ⊢
  obtain ⟨W1, hW1⟩ : ∃ x, x = w0.heap.size := ⟨_, rfl⟩
  have hAS : A ≠ S := by omega
  have hAW : A < W1 := by rw [hW1]; exact HN0.out.lt
  have hwW : w.heap.size ≤ W1 := by omega
  have hSW : S < W1 := by omega
  have hW0 : W1 ≤ w0.heap.size := Nat.le_of_eq hW1
  clear hA hW1 HS
  go_loopw [3, 10] (fun vo it wr => ∃ (i : Nat) (l : List Carr), i ≤ 3 ∧ it = .int .i64 i ∧ l.length ≤ i ∧ Hid (∀ i, i < l.length → (l.getD i noCarr).decks.length ≤ 2) ∧ Hid (wr.ownsRow W1 72 3 vo l.length ((l.map Carr.cells).flatten)) ∧ Hid (CSep W1 vo.ownBlock wr l) ∧ W1 ≤ wr.heap.size ∧ Hid (Names wr A 3 names3) ∧ Hid (StreamOk wr S (k + 100 * i)) ∧ Hid (Keeps S w wr)) (fun _ it _ => 3 - (intOf it).toNat)
  case atStart => exact ⟨0, [], Nat.zero_le _, rfl, Nat.le_refl _, (fun i hi => by cases hi), World.ownsRow_nil _ _ _ _, CSep.nil _ _ _, hW0, HN0.out, HS0.out, HK0.out⟩
  case round =>
    clear HN0 HS0 HK0 hW0
    obtain ⟨i, l, hi, rfl, hll, HD2, HOW, HCS, hWr, HN, HSr, HKr⟩ := hrel
    by_cases hlt : i < 3
    case neg =>
      obtain rfl : i = 3 := by omega
      as_aux_lemma =>
        go_wp2_with fail
        go_ret
        exact ⟨_, l, rfl, own_le HOW.out hwW, hll, HD2.out, HCS.out.le hwW, HSr.out, HKr.out⟩
    have c0 := HN.out.at_ i hlt
    have hnl := names3_short i
    generalize names3.getD i [] = nm at c0 hnl
    obtain ⟨vo, rfl⟩ : ∃ x : Value, x = u3 := ⟨_, rfl⟩
    as_aux_lemma =>
      go_wp2_with fail
      refine (flip_any S (k + 100 * i) 5 _ HSr.out (by omega) (by decide) (by decide)).mono ?_
      rintro e w1 ⟨fl, rfl, hst, hk'⟩
      have HS1 := Lib.hid hst
      have HK1 := Lib.hid (HKr.out.trans hk')
      have HN1 := Lib.hid (HN.out.keeps hk' hAS)
      have HO1 := Lib.hid (own_keeps HOW.out hk' hSW)
      have HC1 := Lib.hid (HCS.out.keeps hk' hSW)
      have hW1' : W1 ≤ w1.heap.size := Nat.le_trans hWr hk'.size
      clear hst hk' HSr HKr HN HOW HCS c0 hWr
      cases fl
      case true =>
        skip
        as_aux_lemma =>
          go_wp2_with fail
          go_roundw
          case rel => exact ⟨i + 1, l, by omega, by go_num, by omega, HD2.out, HO1.out, HC1.out, hW1', HN1.out, HS1.out.mono (by omega), HK1.out⟩
          case measure => simp [intOf]; omega
      skip
      as_aux_lemma =>
        go_wp2_with (first | (refine wpList_val rfl (bs_i4 _ (fun _ => rfl) _ _ _ _ _ _ rfl) ?_))
        refine (pick_lit S (k + 100 * i + 1) [1, 1, 2, 50] (fun x => 1 ≤ x ∧ x ≤ 50) _ _ _ HS1.out (by omega) rfl rfl (by decide) (by decide) (by decide)).mono ?_
        rintro e w2 ⟨ln, rfl, ⟨ln0, ln1⟩, hst, hk'⟩
        have HS2 := Lib.hid hst
        have HK2 := Lib.hid (HK1.out.trans hk')
        have HN2 := Lib.hid (HN1.out.keeps hk' hAS)
        have HO2 := Lib.hid (own_keeps HO1.out hk' hSW)
        have HC2 := Lib.hid (HC1.out.keeps hk' hSW)
        have hW2 : W1 ≤ w2.heap.size := Nat.le_trans hW1' hk'.size
        clear hst hk' HS1 HK1 HN1 HO1 HC1 hW1'
        as_aux_lemma =>
          go_upto_region 7 with (fail)
          have HB3 : Hid (CBox (w2.alloc (.cells #[.string ⟨nm.toArray⟩, .int .i64 ln, .slice none 0 0] 72)) w2.heap.size nm ln (.slice none 0 0)) := ⟨by simp, by go_simp, by go_simp, by go_simp, fun j => by go_simp⟩
          have hk3 : Keeps S w2 (w2.alloc (.cells #[.string ⟨nm.toArray⟩, .int .i64 ln, .slice none 0 0] 72)) := (Keeps.refl _ _).alloc _
          have HS3 : Hid (StreamOk (w2.alloc (.cells #[.string ⟨nm.toArray⟩, .int .i64 ln, .slice none 0 0] 72)) S (k + 100 * i + 2)) := HS2.out.below (ext_alloc (Below.refl _ _))
          have HK3 := Lib.hid (HK2.out.trans hk3)
          have HN3 := Lib.hid (HN2.out.keeps hk3 hAS)
          have HO3 := Lib.hid (own_keeps HO2.out hk3 hSW)
          have HKI3 : Hid (KeepsIf (fun b => b ≠ S) w2 (w2.alloc (.cells #[.string ⟨nm.toArray⟩, .int .i64 ln, .slice none 0 0] 72))) := KeepsIf.alloc _ _
          have hvC : ∀ b, vo.ownBlock = some b → b < w2.heap.size := fun b e => (HO2.out.lt b e).2
          generalize w2.alloc (.cells #[.string ⟨nm.toArray⟩, .int .i64 ln, .slice none 0 0] 72) = w3 at HB3 hk3 HS3 HK3 HN3 HO3 HKI3 ⊢
          have hAC : A < w2.heap.size := HN2.out.lt
          have hCw : w.heap.size ≤ w2.heap.size := HK2.out.size
          obtain ⟨C, hC⟩ : ∃ C, C = w2.heap.size := ⟨_, rfl⟩
          rw [← hC] at HB3 hvC hAC hCw ⊢
          have hCS : C ≠ S := by omega
          have HCC := Lib.hid hC
          clear hC hk3 HS2 HK2 HN2 HO2
          as_aux_lemma =>
            go_wp2_with (first | (refine wpList_val rfl (bs_i3 _ (fun _ => rfl) _ _ _ _ _ rfl) ?_))
            refine (pick_lit S (k + 100 * i + 2) [0, 0, 20] (fun x => 0 ≤ x ∧ x ≤ 20) _ _ _ HS3.out (by omega) rfl rfl (by decide) (by decide) (by decide)).mono ?_
            rintro e w4 ⟨f0, rfl, ⟨f00, f01⟩, hst, hk'⟩
            have HS4 := Lib.hid hst
            have HK4 := Lib.hid (HK3.out.trans hk')
            have HN4 := Lib.hid (HN3.out.keeps hk' hAS)
            have HO4 := Lib.hid (own_keeps HO3.out hk' hSW)
            have HB4 := Lib.hid (HB3.out.keeps hk' hCS)
            have HKI4 : Hid (KeepsIf (fun b => b ≠ S) w2 w4) := HKI3.out.trans (KeepsIf.of_keeps hk' (fun b h => h))
            clear hst hk' HS3 HK3 HN3 HO3 HB3 HKI3
            as_aux_lemma =>
              go_wp2_with (first | (refine wpList_val rfl (bs_i4 _ (fun _ => rfl) _ _ _ _ _ _ rfl) ?_))
              refine (pick_lit S (k + 100 * i + 2 + 1) [1, 1, 2, 0] (fun x => 0 ≤ x ∧ x ≤ 2) _ _ _ HS4.out (by omega) rfl rfl (by decide) (by decide) (by decide)).mono ?_
              rintro e w5 ⟨m, rfl, ⟨m0, m1⟩, hst, hk'⟩
              obtain ⟨m, rfl⟩ := Int.eq_ofNat_of_zero_le m0
              have HS5 := Lib.hid hst
              have HK5 := Lib.hid (HK4.out.trans hk')
              have HN5 := Lib.hid (HN4.out.keeps hk' hAS)
              have HO5 := Lib.hid (own_keeps HO4.out hk' hSW)
              have HB5 := Lib.hid (HB4.out.keeps hk' hCS)
              have HKI5 : Hid (KeepsIf (fun b => b ≠ S) w2 w5) := HKI4.out.trans (KeepsIf.of_keeps hk' (fun b h => h))
              clear hst hk' HS4 HK4 HN4 HO4 HB4 HKI4
              obtain ⟨WI, hWI⟩ : ∃ x, x = w5.heap.size := ⟨_, rfl⟩
              have hCI : C < WI := by rw [hWI]; exact HB5.out.lt
              have hSI : S < WI := by omega
              have hW5 : WI ≤ w5.heap.size := Nat.le_of_eq hWI
              have hwI : w.heap.size ≤ WI := by omega
              have h2I : w2.heap.size ≤ WI := by have := HCC.out; omega
              clear hWI
              as_aux_lemma =>
                go_wp2_with fail
                go_loopw [7, 27] (fun vf it wr => ∃ (j : Nat) (f : Int) (decks : List Deck) (vd : Value), j ≤ m ∧ it = .int .i64 j ∧ vf = .int .i64 f ∧ 0 ≤ f ∧ f ≤ 20 + 30 * j ∧ decks.length ≤ j ∧ Hid (wr.ownsRow WI 63 5 vd decks.length ((decks.map Deck.cells).flatten)) ∧ Hid (DecksIf (fun b => WI ≤ b ∧ vd.ownBlock ≠ some b) wr decks) ∧ WI ≤ wr.heap.size ∧ Hid (CBox wr C nm ln vd) ∧ Hid (KeepsIf (fun b => b < WI ∧ b ≠ S ∧ b ≠ C) w5 wr) ∧ Hid (StreamOk wr S (k + 100 * i + 4 + 44 * j)) ∧ Hid (Keeps S w wr)) (fun _ it _ => m - (intOf it).toNat)
                case atStart => exact ⟨0, f0, [], .slice none 0 0, Nat.zero_le _, rfl, rfl, f00, by omega, Nat.le_refl _, World.ownsRow_nil _ _ _ _, DecksIf.nil _ _, hW5, HB5.out, KeepsIf.refl _ _, HS5.out, HK5.out⟩
                case round =>
                  clear HB5 HS5 HK5 hW5
                  obtain ⟨j, f, decks, vd, hj, rfl, rfl, hf0, hf1, hdl, HOD, HDI, hWj, HB, HKI, HSj, HKj⟩ := hrel
                  obtain ⟨da, dc, rfl⟩ := own_shape HOD.out
                  by_cases hjm : j < m
                  · skip
                    as_aux_lemma =>
                      go_upto_region 10 with (fail)
                      have hBl := HB.out.lt
                      have hS0 : (fun W : World => W.cell? ⟨C, 2, none⟩ = some (.slice da decks.length dc)) wr.drew := HB.out.c2
                      have HSd : Hid (StreamOk wr.drew S (k + 100 * i + 4 + 44 * j)) := HSj.out.below (by exact ext_drew (Below.refl _ _))
                      have hkd : Keeps S wr wr.drew := Keeps.of_below (by exact ext_drew (Below.refl _ _))
                      refine region_lastI (S := fun W : World => W.cell? ⟨C, 2, none⟩ = some (.slice da decks.length dc)) [(true, 0), (true, 1), (true, 2), (true, 3), (false, 4), (false, 5), (false, 6), (true, 7)] (by kernel_rfl) rfl rfl (by kernel_rfl) (by kernel_rfl) rfl (by kernel_rfl) hS0 ?_
                      simp only [seqOps, List.dropLast, List.getD_cons_zero, List.getD_cons_succ]
                      refine seqI_take (v := .pointer (some ⟨C, 2, none⟩)) rfl (fun W hW => by clear hW; go_simp) (fun _ _ _ h => h) ?_
                      simp only [Act.put, List.setIfInBounds_toArray, List.set_cons_zero, List.set_cons_succ]
                      refine seqI_take (v := .slice da decks.length dc) rfl (fun W hW => by go_simp) (fun _ _ _ h => h) ?_
                      simp only [Act.put, List.setIfInBounds_toArray, List.set_cons_zero, List.set_cons_succ]
                      refine seqI_take (v := .pointer (some ⟨S, 0, none⟩)) rfl (fun W hW => by clear hW; go_simp) (fun _ _ _ h => h) ?_
                      simp only [Act.put, List.setIfInBounds_toArray, List.set_cons_zero, List.set_cons_succ]
                      refine seqI_take (v := .int .i64 f) rfl (fun W hW => by clear hW; go_simp) (fun _ _ _ h => h) ?_
                      simp only [Act.put, List.setIfInBounds_toArray, List.set_cons_zero, List.set_cons_succ]
                      refine seqI_call 52 #[.pointer (some ⟨S, 0, none⟩), .int .i64 f] rfl (by go_simp) (rightDeck_any S (k + 100 * i + 4 + 44 * j) wr.drew HSd.out (by omega) f ⟨by omega, by omega⟩) ?_
                      rintro e w7 ⟨d, rfl, hown, hlen, hst, hk7⟩
                      obtain ⟨df, ds, dl, dt, ra, rn, rc, rates⟩ := d
                      have HDO : Hid (DeckOwn wr.heap.size w7 ⟨df, ds, dl, dt, ra, rn, rc, rates⟩) := hown
                      have hk' : Keeps S wr w7 := hkd.trans hk7
                      have HS7 := Lib.hid hst
                      have HK7 := Lib.hid (HKj.out.trans hk')
                      have HB7 := Lib.hid (HB.out.keeps hk' hCS)
                      have HO7 := Lib.hid (own_keeps HOD.out hk' hSI)
                      have HKI7 : Hid (KeepsIf (fun b => b < WI ∧ b ≠ S ∧ b ≠ C) w5 w7) := HKI.out.trans (KeepsIf.of_keeps hk' (fun b h => h.2.1))
                      have hW7 : WI ≤ w7.heap.size := Nat.le_trans hWj hk'.size
                      have hvl : ∀ b, (Value.slice da decks.length dc).ownBlock = some b → WI ≤ b ∧ b < wr.heap.size := fun b e => HOD.out.lt b e
                      have HKR := Lib.hid hk'
                      refine ⟨_, rfl, HB7.out.c2, ?_⟩
                      simp only [Act.put, List.setIfInBounds_toArray, List.set_cons_zero, List.set_cons_succ]
                      dsimp only [Deck.cells]
                      clear hown hst hk7 hk' hkd HSd HSj HKj HB HOD HKI
                      have hk8 : Keeps S w7 (w7.alloc (.cells #[.int .i64 df, .int .i64 ds, .int .i64 dl, .int .i64 dt, .slice ra rn rc] 63)) := (Keeps.refl _ _).alloc _
                      have HB8 := Lib.hid (HB7.out.keeps hk8 hCS)
                      have HO8 := Lib.hid (own_keeps HO7.out hk8 hSI)
                      refine seqI_do rfl (wp_val (bs_d1 _ _ _ 33 df ds dl dt ra rn rc rfl rfl) ⟨HB8.out.c2, ?_⟩)
                      simp only [Act.put, List.setIfInBounds_toArray, List.set_cons_zero, List.set_cons_succ]
                      refine seqI_do rfl (wp_append_own_at (.tmp 30) (.tmp 34) 70 rfl WI 63 i1 _ 5 56 Tryz.underlying70 hi1 hy0 hy1 hy2 rfl (by omega) (.slice da decks.length dc) decks.length _ rfl HO8.out ⟨w7.heap.size, 0, none⟩ 1 1 [.int .i64 df, .int .i64 ds, .int .i64 dl, .int .i64 dt, .slice ra rn rc] rfl rfl (fun j u hj => by rw [add0]; match j, hj with | 0, hj => simp at hj; subst hj; go_simp | 1, hj => simp at hj; subst hj; go_simp | 2, hj => simp at hj; subst hj; go_simp | 3, hj => simp at hj; subst hj; go_simp | 4, hj => simp at hj; subst hj; go_simp) (by simp [Value.oneCell']) (by simp only [maxLen]; omega) (by omega) (by simp; omega) ?_)
                      intro v10 w10 hown10 hgr10 hat10
                      have hvC2 : (Value.slice da decks.length dc).ownBlock ≠ some C := fun e => by have := (hvl _ e).1; omega
                      have HB10 := Lib.hid (HB8.out.grown hgr10 hvC2)
                      have HK10 : Hid (Keeps S w w10) := HK7.out.grown hgr10 (fun b e => by have := (hvl b e).1; omega)
                      have HS10 : Hid (StreamOk w10 S (k + 100 * i + 4 + 44 * j + 43)) := HS7.out.upto (upto_grown hgr10 (by omega) (fun b e => by have := (hvl b e).1; omega))
                      have HKI10 : Hid (KeepsIf (fun b => b < WI ∧ b ≠ S ∧ b ≠ C) w5 w10) := HKI7.out.trans ((KeepsIf.alloc _ _).trans (KeepsIf.grown hgr10 (fun b k e => by have := (hvl b e).1; have := k.1; omega)))
                      have hsz : w7.heap.size + 1 ≤ w10.heap.size := by have := hgr10.size; simpa using this
                      have HDI10 : Hid (DecksIf (fun b => WI ≤ b ∧ v10.ownBlock ≠ some b) w10 (decks ++ [(⟨df, ds, dl, dt, ra, rn, rc, rates⟩ : Deck)])) := DecksIf.deck (S := S) HDI.out HKR.out hSI hWj (fun b e => (hvl b e).2) HDO.out (by omega) (fun b k1 k2 k3 => (hgr10.block b (by simp; omega) (fun e => k3 e.symm)).trans (Below.heap_alloc _ _ _ k1)) (by
                        rcases hat10 with h | h
                        · exact Or.inl h
                        · exact Or.inr (fun b e => by rw [h] at e; injection e with e; simp at e; omega))
                      have HO10 : Hid (w10.ownsRow WI 63 5 v10 (decks ++ [(⟨df, ds, dl, dt, ra, rn, rc, rates⟩ : Deck)]).length (((decks ++ [(⟨df, ds, dl, dt, ra, rn, rc, rates⟩ : Deck)]).map Deck.cells).flatten)) := by
                        show World.ownsRow _ _ _ _ _ _ _
                        rw [dcells_snoc, List.length_append]
                        exact hown10
                      obtain ⟨da2, dc2, rfl⟩ := own_shape hown10
                      refine ⟨HB10.out.c2, ?_⟩
                      simp only [Act.put, List.setIfInBounds_toArray, List.set_cons_zero, List.set_cons_succ]
                      clear hown10 hgr10 hat10 HB8 HO8 HS7 HK7 HB7 HO7 HKI7 hk8 HDI HDO HKR hlen
                      refine seqI_take (v := .pointer (some ⟨C, 2, none⟩)) rfl (fun W hW => by clear hW; go_simp) (fun _ _ _ h => h) ?_
                      simp only [Act.put, List.setIfInBounds_toArray, List.set_cons_zero, List.set_cons_succ]
                      have hvC3 : (Value.slice da2 (decks.length + 1) dc2).ownBlock ≠ some C := fun e => by have := (HO10.out.lt _ e).1; omega
                      have HB11 := Lib.hid (HB10.out.s2 (.slice da2 (decks.length + 1) dc2))
                      have HO11 : Hid ((w10.setCell ⟨C, 2, none⟩ (.slice da2 (decks.length + 1) dc2)).ownsRow WI 63 5 (.slice da2 (decks.length + 1) dc2) (decks ++ [(⟨df, ds, dl, dt, ra, rn, rc, rates⟩ : Deck)]).length (((decks ++ [(⟨df, ds, dl, dt, ra, rn, rc, rates⟩ : Deck)]).map Deck.cells).flatten)) := own_set HO10.out hvC3
                      have HDI11 : Hid (DecksIf (fun b => WI ≤ b ∧ (Value.slice da2 (decks.length + 1) dc2).ownBlock ≠ some b) (w10.setCell ⟨C, 2, none⟩ (.slice da2 (decks.length + 1) dc2)) (decks ++ [(⟨df, ds, dl, dt, ra, rn, rc, rates⟩ : Deck)])) := DecksIf.on HDI10.out (fun W hW => (KeepsIf.set (fun b k e => by have := k.1; show False; simp at e; omega)).trans hW)
                      have HK11 : Hid (Keeps S w (w10.setCell ⟨C, 2, none⟩ (.slice da2 (decks.length + 1) dc2))) := HK10.out.setCell_new (p := ⟨C, 2, none⟩) hCw _
                      have HS11 : Hid (StreamOk (w10.setCell ⟨C, 2, none⟩ (.slice da2 (decks.length + 1) dc2)) S (k + 100 * i + 4 + 44 * j + 43)) := HS10.out.upto ((Below.refl (S + 1) w10).setCell (p := ⟨C, 2, none⟩) (by show S + 1 ≤ C; omega) _)
                      have HKI11 : Hid (KeepsIf (fun b => b < WI ∧ b ≠ S ∧ b ≠ C) w5 (w10.setCell ⟨C, 2, none⟩ (.slice da2 (decks.length + 1) dc2))) := HKI10.out.trans (KeepsIf.set (fun b k e => k.2.2 e.symm))
                      have hW11 : WI ≤ (w10.setCell ⟨C, 2, none⟩ (.slice da2 (decks.length + 1) dc2)).heap.size := by simp; omega
                      obtain ⟨hCl, z0, z1, z2, zf⟩ := HB10.out
                      refine seqI_nil (Or.inl ?_)
                      show Oper.wp _ (⟨none, .store 70 (.tmp 36) (.tmp 35), _, _, _, none⟩ : Oper) _ _ _ _
                      refine wp_skip (w' := w10.setCell ⟨C, 2, none⟩ (.slice da2 (decks.length + 1) dc2)) (by go_simp) ?_
                      simp only [Act.put]
                      clear hCl z0 z1 z2 zf HB10 HO10 HDI10 HK10 HS10 HKI10 hsz
                      generalize w10.setCell ⟨C, 2, none⟩ (.slice da2 (decks.length + 1) dc2) = wA at HB11 HO11 HDI11 HK11 HS11 HKI11 hW11 ⊢
                      as_aux_lemma =>
                        go_wp2_with (first | (refine wpList_val rfl (bs_i2 _ (fun _ => rfl) _ _ _ _ rfl) ?_))
                        refine (pick_lit S (k + 100 * i + 4 + 44 * j + 43) [1, 30] (fun x => 1 ≤ x ∧ x ≤ 30) _ _ _ HS11.out (by omega) rfl rfl (by decide) (by decide) (by decide)).mono ?_
                        rintro e wB ⟨fx, rfl, ⟨fx0, fx1⟩, hst, hk'⟩
                        have HS12 := Lib.hid hst
                        have HK12 := Lib.hid (HK11.out.trans hk')
                        have HB12 := Lib.hid (HB11.out.keeps hk' hCS)
                        have HO12 := Lib.hid (own_keeps HO11.out hk' hSI)
                        have HKI12 : Hid (KeepsIf (fun b => b < WI ∧ b ≠ S ∧ b ≠ C) w5 wB) := HKI11.out.trans (KeepsIf.of_keeps hk' (fun b h => h.2.1))
                        have HDI12 : Hid (DecksIf (fun b => WI ≤ b ∧ (Value.slice da2 (decks.length + 1) dc2).ownBlock ≠ some b) wB (decks ++ [(⟨df, ds, dl, dt, ra, rn, rc, rates⟩ : Deck)])) := DecksIf.on HDI11.out (fun W hW => (KeepsIf.of_keeps hk' (fun b k => by have := k.1; omega)).trans hW)
                        have hW12 : WI ≤ wB.heap.size := Nat.le_trans hW11 hk'.size
                        have wf : IntKind.i64.wrap (f + fx) = f + fx := IntWalk.i64_in _ (by omega)
                        clear hst hk' HS11 HK11 HB11 HO11 HKI11 HDI11 hW11
                        as_aux_lemma =>
                          go_wp2_with fail
                          go_roundw
                          case rel => exact ⟨j + 1, f + fx, decks ++ [(⟨df, ds, dl, dt, ra, rn, rc, rates⟩ : Deck)], .slice da2 (decks.length + 1) dc2, by omega, by go_num, by go_num, by omega, by omega, by rw [List.length_append, List.length_singleton]; omega, HO12.out, HDI12.out, hW12, HB12.out, HKI12.out, HS12.out.mono (by omega), HK12.out⟩
                          case measure => simp [intOf]; omega
                  · obtain rfl : j = m := by omega
                    obtain ⟨hCl, z0, z1, z2, zf⟩ := HB.out
                    have hC2 := HCC.out
                    have HKO : Hid (KeepsIf (fun b => W1 ≤ b ∧ vo.ownBlock ≠ some b) w2 wr) := (HKI5.out.weak (fun b _ h => by have := h.1; omega)).trans' HKI.out (fun b k1 k2 => ⟨by omega, by have := k2.1; omega, by omega⟩)
                    have HKV : Hid (KeepsIf (fun b => vo.ownBlock = some b) w5 wr) := HKI.out.weak (fun b _ e => by have := hvC b e; have := (HO5.out.lt b e).1; exact ⟨by omega, by omega, by omega⟩)
                    have HOv := Lib.hid (own_if HO5.out HKV.out (fun b e => e))
                    have HNv := Lib.hid (HN5.out.keepsIf HKI.out ⟨by omega, hAS, by omega⟩)
                    have hfew : CFew ⟨nm, ln, da, decks.length, dc, decks⟩ := ⟨by show decks.length ≤ 3; omega, by show nm.length ≤ 100; exact hnl, (show -2000000000000 ≤ ln ∧ ln ≤ 2000000000000 from ⟨by omega, by omega⟩)⟩
                    have HCN : Hid (CSep W1 vo.ownBlock wr (l ++ [(⟨nm, ln, da, decks.length, dc, decks⟩ : Carr)])) := HC2.out.snoc HKO.out (fun b e => by have := hvC b e; omega) h2I (by omega) HOD.out hfew HDI.out
                    have HOA := Lib.hid (HOv.out.alloc (.cells #[.string ⟨nm.toArray⟩, .int .i64 ln, .slice da decks.length dc] 72))
                    have hk12 : Keeps S wr (wr.alloc (.cells #[.string ⟨nm.toArray⟩, .int .i64 ln, .slice da decks.length dc] 72)) := (Keeps.refl _ _).alloc _
                    have HNA := Lib.hid (HNv.out.keeps hk12 hAS)
                    have hvA : vo.ownBlock ≠ some A := fun e => by have := (HOv.out.lt _ e).1; omega
                    have hvW : ∀ b, vo.ownBlock = some b → W1 ≤ b := fun b e => (HOv.out.lt b e).1
                    have hW1r : W1 ≤ wr.heap.size := by omega
                    have HD3 : Hid (∀ i, i < (l ++ [(⟨nm, ln, da, decks.length, dc, decks⟩ : Carr)]).length → ((l ++ [(⟨nm, ln, da, decks.length, dc, decks⟩ : Carr)]).getD i noCarr).decks.length ≤ 2) := fun i hi => by
                      rw [getD_snoc]
                      by_cases h1 : i < l.length
                      · rw [if_pos h1]; exact HD2.out i h1
                      · rw [if_neg h1, if_pos (by simp at hi; omega)]; show decks.length ≤ 2; omega
                    clear hC2 HB HKI HDI HOD HKO HKV HO5 HN5 hk12 HC2 HKI5 hfew HD2
                    as_aux_lemma =>
                      go_wp2_with (first | (refine wpList_val rfl (bs_c1 _ _ _ 44 ⟨nm.toArray⟩ ln da decks.length dc rfl rfl) ?_) | (at_builtin; refine wpList_append_own_at _ rfl (.tmp 43) (.tmp 45) 26 rfl W1 72 i2 _ 3 48 Tryz.underlying26 hi2 hz0 hz1 hz2 rfl (by omega) vo l.length _ rfl HOA.out ⟨wr.heap.size, 0, none⟩ 1 1 [.string ⟨nm.toArray⟩, .int .i64 ln, .slice da decks.length dc] rfl rfl (fun j u hj => by rw [add0]; match j, hj with | 0, hj => simp at hj; subst hj; go_simp | 1, hj => simp at hj; subst hj; go_simp | 2, hj => simp at hj; subst hj; go_simp) (by simp [Value.oneCell']) (by simp only [maxLen]; omega) (by omega) (by simp; omega) ?_; intro v12 w12 hown12 hgr12 _ hat12))
                      have hsz : wr.heap.size + 1 ≤ w12.heap.size := by have := hgr12.size; simpa using this
                      have HN12 := Lib.hid (HNA.out.grown hgr12 hvA)
                      have HK12 : Hid (Keeps S w w12) := HKj.out.grown hgr12 (fun b e => by have := hvW b e; omega)
                      have HS12 : Hid (StreamOk w12 S (k + 100 * i + 4 + 44 * j)) := HSj.out.upto (upto_grown hgr12 (by omega) (fun b e => by have := hvW b e; omega))
                      have HC12 : Hid (CSep W1 v12.ownBlock w12 (l ++ [(⟨nm, ln, da, decks.length, dc, decks⟩ : Carr)])) := HCN.out.step (by omega) (fun b k1 k2 k3 => (hgr12.block b (by simp; omega) (fun e => k3 e.symm)).trans (Below.heap_alloc _ _ _ k1)) (by
                        rcases hat12 with h | h
                        · exact Or.inl h
                        · exact Or.inr (fun b e => by rw [h] at e; injection e with e; simp at e; omega))
                      have HO12 : Hid (w12.ownsRow W1 72 3 v12 (l ++ [(⟨nm, ln, da, decks.length, dc, decks⟩ : Carr)]).length (((l ++ [(⟨nm, ln, da, decks.length, dc, decks⟩ : Carr)]).map Carr.cells).flatten)) := by
                        show World.ownsRow _ _ _ _ _ _ _
                        rw [ccells_snoc, List.length_append]
                        exact hown12
                      clear hown12 hgr12 hat12
                      go_roundw
                      case rel => exact ⟨i + 1, l ++ [(⟨nm, ln, da, decks.length, dc, decks⟩ : Carr)], by omega, by go_num, by rw [List.length_append, List.length_singleton]; omega, HD3.out, HO12.out, HC12.out, by omega, HN12.out, HS12.out.mono (by omega), HK12.out⟩
                      case measure => simp [intOf]; omega
end Go.Proofs.YtppinnjdaoaddaaGreatDoor

set_option linter.unusedVariables false
set_option linter.unusedSimpArgs false
namespace Go.Proofs.YtppinnjdaoaddaaGreatDoor
open Go.RowKit

set_option maxRecDepth 100000 in
set_option maxHeartbeats 8000000 in
theorem deck_any (S k : Nat) (w : World) (h : StreamOk w S k) (hk : k ≤ 900000) : Calls Tryz.prog 53 #[.pointer (some ⟨S, 0, none⟩)] w (DeckPost S (k + 50) w) := by
  obtain ⟨i1, hi1, hy0, hy1, hy2⟩ := info_parts Tryz.infoRate
  have HS := Lib.hid h
  have hSl := h.lt
  clear h
  go_enter Tryz.func53, Tryz.ntmps53
  go_upto_region 1 with (fail)
  have HF0 : Hid (Room (w.alloc (.cells #[.int .i64 0, .int .i64 0, .int .i64 0, .int .i64 0, .slice none 0 0] 63)) w.heap.size 5) := ⟨by simp, box_th (heap_new _ _)⟩
  have HS0 : Hid (StreamOk (w.alloc (.cells #[.int .i64 0, .int .i64 0, .int .i64 0, .int .i64 0, .slice none 0 0] 63)) S k) := HS.out.below (ext_alloc (Below.refl _ _))
  have HK0 : Hid (Keeps S w (w.alloc (.cells #[.int .i64 0, .int .i64 0, .int .i64 0, .int .i64 0, .slice none 0 0] 63))) := (Keeps.refl _ _).alloc _
  generalize w.alloc (.cells #[.int .i64 0, .int .i64 0, .int .i64 0, .int .i64 0, .slice none 0 0] 63) = w0 at HF0 HS0 HK0 ⊢
  obtain ⟨F, hF⟩ : ∃ F, F = w.heap.size := ⟨_, rfl⟩
  rw [← hF] at HF0 ⊢
  have hFS : F ≠ S := by omega
  have hSF : S + 1 ≤ F := by omega
  have HFW := Lib.hid hF
  clear hF HS
  as_aux_lemma =>
    go_wp2_with (first | (refine wpList_val rfl (bs_i3 _ (fun _ => rfl) _ _ _ _ _ rfl) ?_))
    refine (pick_lit S k [0, 10, 50] (fun x => 0 ≤ x ∧ x ≤ 50) _ _ _ HS0.out (by omega) rfl rfl (by decide) (by decide) (by decide)).mono ?_
    rintro e w1 ⟨ps, rfl, ⟨ps0, ps1⟩, hst1, hk1⟩
    have HS1 := Lib.hid hst1
    have HK1 := Lib.hid (HK0.out.trans hk1)
    have HF1 := Lib.hid (HF0.out.keeps hk1 hFS)
    clear hst1 hk1 HS0 HK0 HF0
    as_aux_lemma =>
      go_wp2_with fail
      refine (rightDeck_any S (k + 1) w1 HS1.out (by omega) ps ⟨by omega, by omega⟩).mono ?_
      rintro e w2 ⟨d, rfl, hown, hlen, hst2, hk2⟩
      obtain ⟨df, ds, dl, dt, ra, rn, rc, rates⟩ := d
      obtain ⟨hown, hok, hbd⟩ := hown
      obtain ⟨hc1, -⟩ := own_caps hown
      obtain ⟨⟨f0, f1⟩, ⟨s0, s1⟩, ⟨l0, l1⟩, ⟨t0, t1⟩⟩ := hbd
      have HRI : Hid (RatesIn rates) := hok.2
      dsimp only [Deck.cells] at hown hlen hc1 f0 f1 s0 s1 l0 l1 t0 t1 ⊢
      subst hc1
      have HS2 := Lib.hid hst2
      have HK2 := Lib.hid (HK1.out.trans hk2)
      have HF2 := Lib.hid (HF1.out.keeps hk2 hFS)
      have HO2 := Lib.hid hown
      obtain ⟨WB, hWB⟩ : ∃ x, x = w1.heap.size := ⟨_, rfl⟩
      rw [← hWB] at HO2
      have hwW : w.heap.size ≤ WB := by rw [hWB]; exact HK1.out.size
      have hFW : F < WB := by rw [hWB]; exact HF1.out.lt
      have hSW : S < WB := by omega
      have hW2 : WB ≤ w2.heap.size := by rw [hWB]; exact hk2.size
      clear hst2 hk2 HS1 HK1 HF1 hown hWB hok
      as_aux_lemma =>
        go_upto_region 2 with (fail)
        have HD3 : Hid (DBox (w2.alloc (.cells #[.int .i64 df, .int .i64 ds, .int .i64 dl, .int .i64 dt, .slice ra rates.length rc] 63)) w2.heap.size df ds dl dt (.slice ra rates.length rc)) := ⟨by simp, by go_simp, by go_simp, by go_simp, by go_simp, by go_simp, fun j => by go_simp⟩
        have hk3 : Keeps S w2 (w2.alloc (.cells #[.int .i64 df, .int .i64 ds, .int .i64 dl, .int .i64 dt, .slice ra rates.length rc] 63)) := (Keeps.refl _ _).alloc _
        have HS3 : Hid (StreamOk (w2.alloc (.cells #[.int .i64 df, .int .i64 ds, .int .i64 dl, .int .i64 dt, .slice ra rates.length rc] 63)) S (k + 44)) := HS2.out.below (ext_alloc (Below.refl _ _))
        have HK3 := Lib.hid (HK2.out.trans hk3)
        have HF3 := Lib.hid (HF2.out.keeps hk3 hFS)
        have HO3 := Lib.hid (own_keeps HO2.out hk3 hSW)
        have hvD : (Value.slice ra rates.length rc).ownBlock ≠ some w2.heap.size := fun e => by have := (HO2.out.lt _ e).2; omega
        have hvF : (Value.slice ra rates.length rc).ownBlock ≠ some F := fun e => by have := (HO2.out.lt _ e).1; omega
        generalize w2.alloc (.cells #[.int .i64 df, .int .i64 ds, .int .i64 dl, .int .i64 dt, .slice ra rates.length rc] 63) = w3 at HD3 HS3 HK3 HF3 HO3 hk3 ⊢
        generalize w2.heap.size = D at HD3 hvD hW2 ⊢
        have hDS : D ≠ S := by omega
        have hDw : w.heap.size ≤ D := by omega
        clear hk3 HS2 HK2 HF2 HO2
        as_aux_lemma =>
          go_wp2_with fail
          refine (flip_any S (k + 44) 12 _ HS3.out (by omega) (by decide) (by decide)).mono ?_
          rintro e w4 ⟨fl, rfl, hst, hk'⟩
          have HS4 := Lib.hid hst
          have HK4 := Lib.hid (HK3.out.trans hk')
          have HF4 := Lib.hid (HF3.out.keeps hk' hFS)
          have HD4 := Lib.hid (HD3.out.keeps hk' hDS)
          have HO4 := Lib.hid (own_keeps HO3.out hk' hSW)
          clear hst hk' HS3 HK3 HF3 HD3 HO3
          cases fl
          · obtain ⟨wE, rfl⟩ : ∃ x : World, x = w4 := ⟨_, rfl⟩
            have HDE := HD4
            have HFE := HF4
            have HSE := HS4
            have HKE := HK4
            have HOE := HO4
            clear HD4 HF4 HS4 HK4 HO4
            skip
            obtain ⟨hDl, z0, z1, z2, z3, z4, zf⟩ := HDE.out
            have HTH := Lib.hid HFE.out.th
            have HC9 := Lib.hid (World.rangeAt_setCells_same wE F 0 [.int .i64 df, .int .i64 ds, .int .i64 dl, .int .i64 dt, .slice ra rates.length rc] HTH.out)
            have HS9 : Hid (StreamOk (wE.setCells F 0 [.int .i64 df, .int .i64 ds, .int .i64 dl, .int .i64 dt, .slice ra rates.length rc]) S (k + 50)) := (HSE.out.mono (by omega)).upto (below_setCells hSF _ _ _)
            have HK9 : Hid (Keeps S w (wE.setCells F 0 [.int .i64 df, .int .i64 ds, .int .i64 dl, .int .i64 dt, .slice ra rates.length rc])) := keeps_setCells (Nat.le_of_eq HFW.out.symm) _ _ _ HKE.out
            have HO9 : Hid ((wE.setCells F 0 [.int .i64 df, .int .i64 ds, .int .i64 dl, .int .i64 dt, .slice ra rates.length rc]).ownsRow WB 120 3 (.slice ra rates.length rc) rates.length (((rates).map Rate.cells).flatten)) := own_set (own_set (own_set (own_set (own_set HOE.out hvF) hvF) hvF) hvF) hvF
            clear HOE HSE HKE HDE
            skip
            as_aux_lemma =>
              go_wp2_with (refine wpList_store_mid rfl 63 (.tmp 2) (.tmp 52) rfl F 0 #[.int .i64 df, .int .i64 ds, .int .i64 dl, .int .i64 dt, .slice ra rates.length rc] rfl rfl HTH.out Tryz.deckSize (by simp [Value.oneCell']) ?_; generalize World.setCells wE F 0 _ = W9 at HC9 HS9 HK9 HO9 ⊢)
              refine bodyPost_ret (?_ : _ = Result.ok (.agg #[.int .i64 df, .int .i64 ds, .int .i64 dl, .int .i64 dt, .slice ra rates.length rc]) _) rfl ?_
              · exact results_cell1 (t := 2) (by rfl) _ _ _ Tryz.isAgg63 Tryz.sizeOf63 (by rfl) [.int .i64 df, .int .i64 ds, .int .i64 dl, .int .i64 dt, .slice ra rates.length rc] rfl (fun j v hj => by have := HC9.out j v hj; rw [Nat.zero_add] at this; exact this)
              exact ⟨⟨df, ds, dl, dt, ra, rates.length, rc, rates⟩, rfl, ⟨own_le HO9.out hwW, ⟨by show (rates).length ≤ 100; omega, HRI.out⟩, ⟨⟨by show -2000000000000 ≤ (df : Int); omega, by show (df : Int) ≤ 2000000000000; omega⟩, ⟨by show -2000000000000 ≤ (ds : Int); omega, by show (ds : Int) ≤ 2000000000000; omega⟩, ⟨by show -2000000000000 ≤ (dl : Int); omega, by show (dl : Int) ≤ 2000000000000; omega⟩, ⟨by show -2000000000000 ≤ (dt : Int); omega, by show (dt : Int) ≤ 2000000000000; omega⟩⟩⟩, HS9.out, HK9.out⟩
          · skip
            as_aux_lemma =>
              go_wp2_with fail
              refine (next_any S (k + 45) 4 _ HS4.out (by omega) (by omega) (by omega)).mono ?_
              rintro e w5 ⟨m, rfl, x0, x1, hst, hk'⟩
              have HS5 := Lib.hid hst
              have HK5 := Lib.hid (HK4.out.trans hk')
              have HF5 := Lib.hid (HF4.out.keeps hk' hFS)
              have HD5 := Lib.hid (HD4.out.keeps hk' hDS)
              have HO5 := Lib.hid (own_keeps HO4.out hk' hSW)
              clear hst hk' HS4 HK4 HF4 HD4 HO4
              obtain ⟨m, rfl⟩ := Int.eq_ofNat_of_zero_le x0
              obtain hm | hm | hm | hm : m = 0 ∨ m = 1 ∨ m = 2 ∨ m = 3 := by omega
              · subst hm
                as_aux_lemma =>
                  go_wp2_with fail
                  refine (odd_any S (k + 46) 0 345686399999 _ HS5.out (by omega) (by omega) (by omega) (by omega)).mono ?_
                  rintro e w6 ⟨y, rfl, ⟨y0, y1⟩, hst, hk'⟩
                  have HS6 := Lib.hid hst
                  have HK6 := Lib.hid (HK5.out.trans hk')
                  have HF6 := Lib.hid (HF5.out.keeps hk' hFS)
                  have HD6 := Lib.hid (HD5.out.keeps hk' hDS)
                  have HO6 := Lib.hid (own_keeps HO5.out hk' hSW)
                  clear hst hk' HS5 HK5 HF5 HD5 HO5
                  as_aux_lemma =>
                    go_wp2_with fail
                    refine (odd_any S (k + 46 + 2) 0 100000000 _ HS6.out (by omega) (by omega) (by omega) (by omega)).mono ?_
                    rintro e w7 ⟨y2, rfl, ⟨y20, y21⟩, hst, hk'⟩
                    have HS7 := Lib.hid hst
                    have HK7 := Lib.hid (HK6.out.trans hk')
                    have HF7 := Lib.hid (HF6.out.keeps hk' hFS)
                    have HD7 := Lib.hid (HD6.out.keeps hk' hDS)
                    have HO7 := Lib.hid (own_keeps HO6.out hk' hSW)
                    clear hst hk' HS6 HK6 HF6 HD6 HO6
                    have HD8 := Lib.hid ((HD7.out.s0 y).s1 y2)
                    have HF8 := Lib.hid ((HF7.out.set D 0 (.int .i64 y)).set D 1 (.int .i64 y2))
                    have HO8 : Hid (((w7.setCell ⟨D, 0, none⟩ (.int .i64 y)).setCell ⟨D, 1, none⟩ (.int .i64 y2)).ownsRow WB 120 3 (.slice ra rates.length rc) rates.length ((rates.map Rate.cells).flatten)) := own_set (own_set HO7.out hvD) hvD
                    have HK8 : Hid (Keeps S w ((w7.setCell ⟨D, 0, none⟩ (.int .i64 y)).setCell ⟨D, 1, none⟩ (.int .i64 y2))) := (HK7.out.setCell_new (p := ⟨D, 0, none⟩) hDw _).setCell_new (p := ⟨D, 1, none⟩) hDw _
                    have HS8 : Hid (StreamOk ((w7.setCell ⟨D, 0, none⟩ (.int .i64 y)).setCell ⟨D, 1, none⟩ (.int .i64 y2)) S (k + 50)) := (HS7.out.mono (by omega)).upto (((Below.refl (S + 1) w7).setCell (p := ⟨D, 0, none⟩) (by show S + 1 ≤ D; omega) _).setCell (p := ⟨D, 1, none⟩) (by show S + 1 ≤ D; omega) _)
                    obtain ⟨hDl, z0, z1, z2, z3, z4, zf⟩ := HD7.out
                    clear HS7 HK7 HF7 HD7 HO7
                    as_aux_lemma =>
                      go_upto_region 11 with (fail)
                      clear hDl z0 z1 z2 z3 z4 zf
                      generalize (w7.setCell ⟨D, 0, none⟩ (.int .i64 y)).setCell ⟨D, 1, none⟩ (.int .i64 y2) = wE at HD8 HF8 HO8 HK8 HS8 ⊢
                      have HDE := HD8
                      have HFE := HF8
                      have HSE := HS8
                      have HKE := HK8
                      have HOE := HO8
                      clear HD8 HF8 HS8 HK8 HO8
                      obtain ⟨hDl, z0, z1, z2, z3, z4, zf⟩ := HDE.out
                      have HTH := Lib.hid HFE.out.th
                      have HC9 := Lib.hid (World.rangeAt_setCells_same wE F 0 [.int .i64 y, .int .i64 y2, .int .i64 dl, .int .i64 dt, .slice ra rates.length rc] HTH.out)
                      have HS9 : Hid (StreamOk (wE.setCells F 0 [.int .i64 y, .int .i64 y2, .int .i64 dl, .int .i64 dt, .slice ra rates.length rc]) S (k + 50)) := (HSE.out.mono (by omega)).upto (below_setCells hSF _ _ _)
                      have HK9 : Hid (Keeps S w (wE.setCells F 0 [.int .i64 y, .int .i64 y2, .int .i64 dl, .int .i64 dt, .slice ra rates.length rc])) := keeps_setCells (Nat.le_of_eq HFW.out.symm) _ _ _ HKE.out
                      have HO9 : Hid ((wE.setCells F 0 [.int .i64 y, .int .i64 y2, .int .i64 dl, .int .i64 dt, .slice ra rates.length rc]).ownsRow WB 120 3 (.slice ra rates.length rc) rates.length (((rates).map Rate.cells).flatten)) := own_set (own_set (own_set (own_set (own_set HOE.out hvF) hvF) hvF) hvF) hvF
                      clear HOE HSE HKE HDE
                      as_aux_lemma =>
                        go_wp2_with (refine wpList_store_mid rfl 63 (.tmp 2) (.tmp 52) rfl F 0 #[.int .i64 y, .int .i64 y2, .int .i64 dl, .int .i64 dt, .slice ra rates.length rc] rfl rfl HTH.out Tryz.deckSize (by simp [Value.oneCell']) ?_; generalize World.setCells wE F 0 _ = W9 at HC9 HS9 HK9 HO9 ⊢)
                        refine bodyPost_ret (?_ : _ = Result.ok (.agg #[.int .i64 y, .int .i64 y2, .int .i64 dl, .int .i64 dt, .slice ra rates.length rc]) _) rfl ?_
                        · exact results_cell1 (t := 2) (by rfl) _ _ _ Tryz.isAgg63 Tryz.sizeOf63 (by rfl) [.int .i64 y, .int .i64 y2, .int .i64 dl, .int .i64 dt, .slice ra rates.length rc] rfl (fun j v hj => by have := HC9.out j v hj; rw [Nat.zero_add] at this; exact this)
                        exact ⟨⟨y, y2, dl, dt, ra, rates.length, rc, rates⟩, rfl, ⟨own_le HO9.out hwW, ⟨by show (rates).length ≤ 100; omega, HRI.out⟩, ⟨⟨by show -2000000000000 ≤ (y : Int); omega, by show (y : Int) ≤ 2000000000000; omega⟩, ⟨by show -2000000000000 ≤ (y2 : Int); omega, by show (y2 : Int) ≤ 2000000000000; omega⟩, ⟨by show -2000000000000 ≤ (dl : Int); omega, by show (dl : Int) ≤ 2000000000000; omega⟩, ⟨by show -2000000000000 ≤ (dt : Int); omega, by show (dt : Int) ≤ 2000000000000; omega⟩⟩⟩, HS9.out, HK9.out⟩
              · subst hm
                as_aux_lemma =>
                  go_wp2_with fail
                  refine (odd_any S (k + 46) 0 86400000 _ HS5.out (by omega) (by omega) (by omega) (by omega)).mono ?_
                  rintro e w6 ⟨y, rfl, ⟨y0, y1⟩, hst, hk'⟩
                  have HS6 := Lib.hid hst
                  have HK6 := Lib.hid (HK5.out.trans hk')
                  have HF6 := Lib.hid (HF5.out.keeps hk' hFS)
                  have HD6 := Lib.hid (HD5.out.keeps hk' hDS)
                  have HO6 := Lib.hid (own_keeps HO5.out hk' hSW)
                  clear hst hk' HS5 HK5 HF5 HD5 HO5
                  as_aux_lemma =>
                    go_wp2_with fail
                    refine (odd_any S (k + 46 + 2) 1 86400000 _ HS6.out (by omega) (by omega) (by omega) (by omega)).mono ?_
                    rintro e w7 ⟨y2, rfl, ⟨y20, y21⟩, hst, hk'⟩
                    have HS7 := Lib.hid hst
                    have HK7 := Lib.hid (HK6.out.trans hk')
                    have HF7 := Lib.hid (HF6.out.keeps hk' hFS)
                    have HD7 := Lib.hid (HD6.out.keeps hk' hDS)
                    have HO7 := Lib.hid (own_keeps HO6.out hk' hSW)
                    clear hst hk' HS6 HK6 HF6 HD6 HO6
                    have HD8 := Lib.hid ((HD7.out.s2 y).s3 y2)
                    have HF8 := Lib.hid ((HF7.out.set D 2 (.int .i64 y)).set D 3 (.int .i64 y2))
                    have HO8 : Hid (((w7.setCell ⟨D, 2, none⟩ (.int .i64 y)).setCell ⟨D, 3, none⟩ (.int .i64 y2)).ownsRow WB 120 3 (.slice ra rates.length rc) rates.length ((rates.map Rate.cells).flatten)) := own_set (own_set HO7.out hvD) hvD
                    have HK8 : Hid (Keeps S w ((w7.setCell ⟨D, 2, none⟩ (.int .i64 y)).setCell ⟨D, 3, none⟩ (.int .i64 y2))) := (HK7.out.setCell_new (p := ⟨D, 2, none⟩) hDw _).setCell_new (p := ⟨D, 3, none⟩) hDw _
                    have HS8 : Hid (StreamOk ((w7.setCell ⟨D, 2, none⟩ (.int .i64 y)).setCell ⟨D, 3, none⟩ (.int .i64 y2)) S (k + 50)) := (HS7.out.mono (by omega)).upto (((Below.refl (S + 1) w7).setCell (p := ⟨D, 2, none⟩) (by show S + 1 ≤ D; omega) _).setCell (p := ⟨D, 3, none⟩) (by show S + 1 ≤ D; omega) _)
                    obtain ⟨hDl, z0, z1, z2, z3, z4, zf⟩ := HD7.out
                    clear HS7 HK7 HF7 HD7 HO7
                    as_aux_lemma =>
                      go_upto_region 11 with (fail)
                      clear hDl z0 z1 z2 z3 z4 zf
                      generalize (w7.setCell ⟨D, 2, none⟩ (.int .i64 y)).setCell ⟨D, 3, none⟩ (.int .i64 y2) = wE at HD8 HF8 HO8 HK8 HS8 ⊢
                      have HDE := HD8
                      have HFE := HF8
                      have HSE := HS8
                      have HKE := HK8
                      have HOE := HO8
                      clear HD8 HF8 HS8 HK8 HO8
                      obtain ⟨hDl, z0, z1, z2, z3, z4, zf⟩ := HDE.out
                      have HTH := Lib.hid HFE.out.th
                      have HC9 := Lib.hid (World.rangeAt_setCells_same wE F 0 [.int .i64 df, .int .i64 ds, .int .i64 y, .int .i64 y2, .slice ra rates.length rc] HTH.out)
                      have HS9 : Hid (StreamOk (wE.setCells F 0 [.int .i64 df, .int .i64 ds, .int .i64 y, .int .i64 y2, .slice ra rates.length rc]) S (k + 50)) := (HSE.out.mono (by omega)).upto (below_setCells hSF _ _ _)
                      have HK9 : Hid (Keeps S w (wE.setCells F 0 [.int .i64 df, .int .i64 ds, .int .i64 y, .int .i64 y2, .slice ra rates.length rc])) := keeps_setCells (Nat.le_of_eq HFW.out.symm) _ _ _ HKE.out
                      have HO9 : Hid ((wE.setCells F 0 [.int .i64 df, .int .i64 ds, .int .i64 y, .int .i64 y2, .slice ra rates.length rc]).ownsRow WB 120 3 (.slice ra rates.length rc) rates.length (((rates).map Rate.cells).flatten)) := own_set (own_set (own_set (own_set (own_set HOE.out hvF) hvF) hvF) hvF) hvF
                      clear HOE HSE HKE HDE
                      as_aux_lemma =>
                        go_wp2_with (refine wpList_store_mid rfl 63 (.tmp 2) (.tmp 52) rfl F 0 #[.int .i64 df, .int .i64 ds, .int .i64 y, .int .i64 y2, .slice ra rates.length rc] rfl rfl HTH.out Tryz.deckSize (by simp [Value.oneCell']) ?_; generalize World.setCells wE F 0 _ = W9 at HC9 HS9 HK9 HO9 ⊢)
                        refine bodyPost_ret (?_ : _ = Result.ok (.agg #[.int .i64 df, .int .i64 ds, .int .i64 y, .int .i64 y2, .slice ra rates.length rc]) _) rfl ?_
                        · exact results_cell1 (t := 2) (by rfl) _ _ _ Tryz.isAgg63 Tryz.sizeOf63 (by rfl) [.int .i64 df, .int .i64 ds, .int .i64 y, .int .i64 y2, .slice ra rates.length rc] rfl (fun j v hj => by have := HC9.out j v hj; rw [Nat.zero_add] at this; exact this)
                        exact ⟨⟨df, ds, y, y2, ra, rates.length, rc, rates⟩, rfl, ⟨own_le HO9.out hwW, ⟨by show (rates).length ≤ 100; omega, HRI.out⟩, ⟨⟨by show -2000000000000 ≤ (df : Int); omega, by show (df : Int) ≤ 2000000000000; omega⟩, ⟨by show -2000000000000 ≤ (ds : Int); omega, by show (ds : Int) ≤ 2000000000000; omega⟩, ⟨by show -2000000000000 ≤ (y : Int); omega, by show (y : Int) ≤ 2000000000000; omega⟩, ⟨by show -2000000000000 ≤ (y2 : Int); omega, by show (y2 : Int) ≤ 2000000000000; omega⟩⟩⟩, HS9.out, HK9.out⟩
              · subst hm
                as_aux_lemma =>
                  go_upto_region 10 with (fail)
                  have hD5 := HD5.out.lt
                  have hS5 : (fun W : World => W.cell? ⟨D, 4, none⟩ = some (.slice ra rates.length rc)) w5.drew := HD5.out.c4
                  refine region_lastI (S := fun W : World => W.cell? ⟨D, 4, none⟩ = some (.slice ra rates.length rc)) [(true, 0), (true, 1), (true, 2), (true, 6), (false, 3), (false, 4), (false, 5), (false, 7), (true, 8), (false, 9), (false, 10), (true, 11)] (by kernel_rfl) rfl rfl (by kernel_rfl) (by kernel_rfl) rfl (by kernel_rfl) hS5 ?_
                  simp only [seqOps, List.dropLast, List.getD_cons_zero, List.getD_cons_succ]
                  refine seqI_take (v := .pointer (some ⟨D, 4, none⟩)) rfl (fun W hW => by clear hW; go_simp) (fun _ _ _ h => h) ?_
                  simp only [Act.put, List.setIfInBounds_toArray, List.set_cons_zero, List.set_cons_succ]
                  refine seqI_take (v := .slice ra rates.length rc) rfl (fun W hW => by go_simp) (fun _ _ _ h => h) ?_
                  simp only [Act.put, List.setIfInBounds_toArray, List.set_cons_zero, List.set_cons_succ]
                  refine seqI_take (v := .pointer (some ⟨S, 0, none⟩)) rfl (fun W hW => by clear hW; go_simp) (fun _ _ _ h => h) ?_
                  simp only [Act.put, List.setIfInBounds_toArray, List.set_cons_zero, List.set_cons_succ]
                  refine seqI_take (v := .pointer (some ⟨S, 0, none⟩)) rfl (fun W hW => by clear hW; go_simp) (fun _ _ _ h => h) ?_
                  simp only [Act.put, List.setIfInBounds_toArray, List.set_cons_zero, List.set_cons_succ]
                  refine seqI_call 90 #[.string ⟨#[57]⟩, .int .i64 16] rfl (by go_simp) (Tryz.strings_Repeat ⟨#[57]⟩ 16 _ (by decide) (by decide)) ?_
                  rintro e w6 ⟨rfl, hb6⟩
                  have hra : (Lib.repeatL (⟨#[57]⟩ : ByteArray).data.toList 16).length ≤ 100 := by rw [Lib.repeatL_length]; decide
                  generalize Lib.repeatL (⟨#[57]⟩ : ByteArray).data.toList 16 = rp at hra
                  have hS6 : (fun W : World => W.cell? ⟨D, 4, none⟩ = some (.slice ra rates.length rc)) w6 := (hb6.cell (p := ⟨D, 4, none⟩) hD5).trans hS5
                  refine ⟨_, rfl, hS6, ?_⟩
                  simp only [Act.put, List.setIfInBounds_toArray, List.set_cons_zero, List.set_cons_succ]
                  have hk6 : Keeps S w5 w6 := Keeps.trans (by exact Keeps.of_below (ext_drew (Below.refl _ _))) (Keeps.of_below hb6)
                  have HS6 : Hid (StreamOk w6 S (k + 46)) := HS5.out.below (Below.trans (by exact ext_drew (Below.refl _ _)) hb6)
                  have HK6 := Lib.hid (HK5.out.trans hk6)
                  have HF6 := Lib.hid (HF5.out.keeps hk6 hFS)
                  have HD6 := Lib.hid (HD5.out.keeps hk6 hDS)
                  have HO6 := Lib.hid (own_keeps HO5.out hk6 hSW)
                  clear hb6 hk6 HS5 HK5 HF5 HD5 HO5 hS5 hD5
                  refine seqI_do rfl (wp_val (bs_s5r _ (fun _ => rfl) _ _ 43 ⟨#[57, 57]⟩ ⟨#[48]⟩ ⟨#[120]⟩ ⟨#[49]⟩ ⟨rp.toArray⟩ rfl rfl) ⟨by show (World.alloc _ _).cell? _ = _; have q4 := HD6.out.c4; have ql := HD6.out.lt; go_simp, ?_⟩)
                  simp only [Act.put, List.setIfInBounds_toArray, List.set_cons_zero, List.set_cons_succ]
                  refine seqI_call 26 #[.pointer (some ⟨S, 0, none⟩), .slice (some ⟨w6.heap.size, 0, none⟩) 5 5] rfl (by go_simp) (some_lit S (k + 46) [[57, 57], [48], [120], [49], rp] (fun s => s.length ≤ 100) _ _ _ HS6.out (by omega) rfl rfl (by simp) (by simp) (by intro x hx; simp only [List.mem_cons, List.not_mem_nil, or_false] at hx; rcases hx with rfl | rfl | rfl | rfl | rfl <;> first | exact hra | decide)) ?_
                  rintro e w7 ⟨nm, rfl, hnm, hst, hk'⟩
                  have hnm : nm.length ≤ 100 := hnm
                  have HS7 := Lib.hid hst
                  have HK7 := Lib.hid (HK6.out.trans hk')
                  have HF7 := Lib.hid (HF6.out.keeps hk' hFS)
                  have HD7 := Lib.hid (HD6.out.keeps hk' hDS)
                  have HO7 := Lib.hid (own_keeps HO6.out hk' hSW)
                  refine ⟨_, rfl, HD7.out.c4, ?_⟩
                  simp only [Act.put, List.setIfInBounds_toArray, List.set_cons_zero, List.set_cons_succ]
                  clear hst hk' HS6 HK6 HF6 HD6 HO6
                  refine seqI_call 51 #[.pointer (some ⟨S, 0, none⟩), .int .i64 0, .int .i64 100000000] rfl (by go_simp) (odd_any S (k + 46 + 1) 0 100000000 _ HS7.out (by omega) (by omega) (by omega) (by omega)) ?_
                  rintro e w8 ⟨pr, rfl, ⟨pr0, pr1⟩, hst, hk'⟩
                  have HS8 := Lib.hid hst
                  have HK8 := Lib.hid (HK7.out.trans hk')
                  have HF8 := Lib.hid (HF7.out.keeps hk' hFS)
                  have HD8 := Lib.hid (HD7.out.keeps hk' hDS)
                  have HO8 := Lib.hid (own_keeps HO7.out hk' hSW)
                  refine ⟨_, rfl, HD8.out.c4, ?_⟩
                  simp only [Act.put, List.setIfInBounds_toArray, List.set_cons_zero, List.set_cons_succ]
                  clear hst hk' HS7 HK7 HF7 HD7 HO7
                  refine seqI_take (v := .agg #[.string ⟨nm.toArray⟩, .int .i64 pr, .bool false]) rfl (fun W hW => by clear hW; go_simp) (fun _ _ _ h => h) ?_
                  simp only [Act.put, List.setIfInBounds_toArray, List.set_cons_zero, List.set_cons_succ]
                  have hk9 : Keeps S w8 (w8.alloc (.cells #[.string ⟨nm.toArray⟩, .int .i64 pr, .bool false] 120)) := (Keeps.refl _ _).alloc _
                  have HF9 := Lib.hid (HF8.out.keeps hk9 hFS)
                  have HD9 := Lib.hid (HD8.out.keeps hk9 hDS)
                  have HO9 := Lib.hid (own_keeps HO8.out hk9 hSW)
                  have hW8 : WB ≤ w8.heap.size := Nat.le_trans hW2 (Nat.le_of_lt HD8.out.lt)
                  have hDlt := HD8.out.lt
                  refine seqI_do rfl (wp_val (bs_r1 _ _ _ 48 ⟨nm.toArray⟩ pr false rfl rfl) ⟨HD9.out.c4, ?_⟩)
                  simp only [Act.put, List.setIfInBounds_toArray, List.set_cons_zero, List.set_cons_succ]
                  refine seqI_do rfl (wp_append_own_at (.tmp 41) (.tmp 49) 61 rfl WB 120 i1 _ 3 32 Tryz.underlying61 hi1 hy0 hy1 hy2 rfl (by omega) (.slice ra rates.length rc) rates.length _ rfl HO9.out ⟨w8.heap.size, 0, none⟩ 1 1 [.string ⟨nm.toArray⟩, .int .i64 pr, .bool false] rfl rfl (fun j u hj => by rw [add0]; match j, hj with | 0, hj => simp at hj; subst hj; go_simp | 1, hj => simp at hj; subst hj; go_simp | 2, hj => simp at hj; subst hj; go_simp) (by simp [Value.oneCell']) (by simp only [maxLen]; omega) (by omega) (by simp; omega) ?_)
                  intro v10 w10 hown10 hgr10 hat10
                  obtain ⟨a12, c12, rfl⟩ := own_shape hown10
                  have HD10 := Lib.hid (HD9.out.grown hgr10 hvD)
                  have HF10 := Lib.hid (HF9.out.grown hgr10 hvF)
                  have HK10 : Hid (Keeps S w w10) := HK8.out.grown hgr10 (fun b e => by have := (HO9.out.lt b e).1; omega)
                  have HS10 : Hid (StreamOk w10 S (k + 49)) := (HS8.out.mono (by omega)).upto (upto_grown hgr10 (by omega) (fun b e => by have := (HO9.out.lt b e).1; omega))
                  have HO10 : Hid (w10.ownsRow WB 120 3 (.slice a12 (rates.length + 1) c12) (rates ++ [Rate.mk nm pr false]).length (((rates ++ [Rate.mk nm pr false]).map Rate.cells).flatten)) := by
                    show World.ownsRow _ _ _ _ _ _ _
                    rw [rcells_snoc, List.length_append]
                    exact hown10
                  have hvD2 : (Value.slice a12 (rates.length + 1) c12).ownBlock ≠ some D := fun e => by
                    rcases hat10 with h | h
                    · exact hvD (h ▸ e)
                    · rw [h] at e; injection e with e; simp at e; omega
                  have hvF2 : (Value.slice a12 (rates.length + 1) c12).ownBlock ≠ some F := fun e => by have := (HO10.out.lt _ e).1; omega
                  refine ⟨HD10.out.c4, ?_⟩
                  simp only [Act.put, List.setIfInBounds_toArray, List.set_cons_zero, List.set_cons_succ]
                  clear hown10 hgr10 hat10 HO9 HF9 HD9 HS8 HK8 HF8 HD8 HO8 hk9 hvD hvF
                  have hvF := hvF2
                  refine seqI_take (v := .pointer (some ⟨D, 4, none⟩)) rfl (fun W hW => by clear hW; go_simp) (fun _ _ _ h => h) ?_
                  simp only [Act.put, List.setIfInBounds_toArray, List.set_cons_zero, List.set_cons_succ]
                  have HD11 := Lib.hid (HD10.out.s4 (.slice a12 (rates.length + 1) c12))
                  have HF11 := Lib.hid (HF10.out.set D 4 (.slice a12 (rates.length + 1) c12))
                  have HO11 : Hid ((w10.setCell ⟨D, 4, none⟩ (.slice a12 (rates.length + 1) c12)).ownsRow WB 120 3 (.slice a12 (rates.length + 1) c12) (rates ++ [Rate.mk nm pr false]).length (((rates ++ [Rate.mk nm pr false]).map Rate.cells).flatten)) := own_set HO10.out hvD2
                  have HK11 : Hid (Keeps S w (w10.setCell ⟨D, 4, none⟩ (.slice a12 (rates.length + 1) c12))) := HK10.out.setCell_new (p := ⟨D, 4, none⟩) hDw _
                  have HS11 : Hid (StreamOk (w10.setCell ⟨D, 4, none⟩ (.slice a12 (rates.length + 1) c12)) S (k + 50)) := (HS10.out.mono (by omega)).upto ((Below.refl (S + 1) w10).setCell (p := ⟨D, 4, none⟩) (by show S + 1 ≤ D; omega) _)
                  obtain ⟨hDl, z0, z1, z2, z3, z4, zf⟩ := HD10.out
                  refine seqI_nil (Or.inl ?_)
                  show Oper.wp _ (⟨none, .store 61 (.tmp 51) (.tmp 50), _, _, _, none⟩ : Oper) _ _ _ _
                  refine wp_skip (w' := w10.setCell ⟨D, 4, none⟩ (.slice a12 (rates.length + 1) c12)) (by go_simp) ?_
                  simp only [Act.put]
                  clear hDl z0 z1 z2 z3 z4 zf HD10 HF10 HO10 HK10 HS10
                  generalize w10.setCell ⟨D, 4, none⟩ (.slice a12 (rates.length + 1) c12) = wE at HD11 HF11 HO11 HK11 HS11 ⊢
                  have HDE := HD11
                  have HFE := HF11
                  have HSE := HS11
                  have HKE := HK11
                  have HOE := HO11
                  clear HD11 HF11 HS11 HK11 HO11
                  obtain ⟨hDl, z0, z1, z2, z3, z4, zf⟩ := HDE.out
                  have HTH := Lib.hid HFE.out.th
                  have HC9 := Lib.hid (World.rangeAt_setCells_same wE F 0 [.int .i64 df, .int .i64 ds, .int .i64 dl, .int .i64 dt, .slice a12 (rates.length + 1) c12] HTH.out)
                  have HS9 : Hid (StreamOk (wE.setCells F 0 [.int .i64 df, .int .i64 ds, .int .i64 dl, .int .i64 dt, .slice a12 (rates.length + 1) c12]) S (k + 50)) := (HSE.out.mono (by omega)).upto (below_setCells hSF _ _ _)
                  have HK9 : Hid (Keeps S w (wE.setCells F 0 [.int .i64 df, .int .i64 ds, .int .i64 dl, .int .i64 dt, .slice a12 (rates.length + 1) c12])) := keeps_setCells (Nat.le_of_eq HFW.out.symm) _ _ _ HKE.out
                  have HO9 : Hid ((wE.setCells F 0 [.int .i64 df, .int .i64 ds, .int .i64 dl, .int .i64 dt, .slice a12 (rates.length + 1) c12]).ownsRow WB 120 3 (.slice a12 (rates.length + 1) c12) (rates ++ [Rate.mk nm pr false]).length (((rates ++ [Rate.mk nm pr false]).map Rate.cells).flatten)) := own_set (own_set (own_set (own_set (own_set HOE.out hvF) hvF) hvF) hvF) hvF
                  clear HOE HSE HKE HDE
                  as_aux_lemma =>
                    go_wp2_with (refine wpList_store_mid rfl 63 (.tmp 2) (.tmp 52) rfl F 0 #[.int .i64 df, .int .i64 ds, .int .i64 dl, .int .i64 dt, .slice a12 (rates.length + 1) c12] rfl rfl HTH.out Tryz.deckSize (by simp [Value.oneCell']) ?_; generalize World.setCells wE F 0 _ = W9 at HC9 HS9 HK9 HO9 ⊢)
                    refine bodyPost_ret (?_ : _ = Result.ok (.agg #[.int .i64 df, .int .i64 ds, .int .i64 dl, .int .i64 dt, .slice a12 (rates.length + 1) c12]) _) rfl ?_
                    · exact results_cell1 (t := 2) (by rfl) _ _ _ Tryz.isAgg63 Tryz.sizeOf63 (by rfl) [.int .i64 df, .int .i64 ds, .int .i64 dl, .int .i64 dt, .slice a12 (rates.length + 1) c12] rfl (fun j v hj => by have := HC9.out j v hj; rw [Nat.zero_add] at this; exact this)
                    exact ⟨⟨df, ds, dl, dt, a12, rates.length + 1, c12, rates ++ [Rate.mk nm pr false]⟩, rfl, ⟨own_le HO9.out hwW, ⟨by show (rates ++ [Rate.mk nm pr false]).length ≤ 100; rw [List.length_append, List.length_singleton]; omega, rates_snoc HRI.out (by show List.length _ ≤ 100; first | omega | simp) (by show -2000000000000 ≤ pr; omega) (by show pr ≤ 2000000000000; omega)⟩, ⟨⟨by show -2000000000000 ≤ (df : Int); omega, by show (df : Int) ≤ 2000000000000; omega⟩, ⟨by show -2000000000000 ≤ (ds : Int); omega, by show (ds : Int) ≤ 2000000000000; omega⟩, ⟨by show -2000000000000 ≤ (dl : Int); omega, by show (dl : Int) ≤ 2000000000000; omega⟩, ⟨by show -2000000000000 ≤ (dt : Int); omega, by show (dt : Int) ≤ 2000000000000; omega⟩⟩⟩, HS9.out, HK9.out⟩
              · subst hm
                as_aux_lemma =>
                  go_upto_region 4 with (fail)
                  have hD5 := HD5.out.lt
                  have hS5 : (fun W : World => W.cell? ⟨D, 4, none⟩ = some (.slice ra rates.length rc)) w5.drew := HD5.out.c4
                  have HSd : Hid (StreamOk w5.drew S (k + 46)) := HS5.out.below (by exact ext_drew (Below.refl _ _))
                  have hkd : Keeps S w5 w5.drew := Keeps.of_below (by exact ext_drew (Below.refl _ _))
                  refine region_lastI (S := fun W : World => W.cell? ⟨D, 4, none⟩ = some (.slice ra rates.length rc)) [(true, 0), (true, 1), (true, 2), (false, 3), (false, 4), (true, 5), (false, 6), (false, 7), (true, 8)] (by kernel_rfl) rfl rfl (by kernel_rfl) (by kernel_rfl) rfl (by kernel_rfl) hS5 ?_
                  simp only [seqOps, List.dropLast, List.getD_cons_zero, List.getD_cons_succ]
                  refine seqI_take (v := .pointer (some ⟨D, 4, none⟩)) rfl (fun W hW => by clear hW; go_simp) (fun _ _ _ h => h) ?_
                  simp only [Act.put, List.setIfInBounds_toArray, List.set_cons_zero, List.set_cons_succ]
                  refine seqI_take (v := .slice ra rates.length rc) rfl (fun W hW => by go_simp) (fun _ _ _ h => h) ?_
                  simp only [Act.put, List.setIfInBounds_toArray, List.set_cons_zero, List.set_cons_succ]
                  refine seqI_take (v := .pointer (some ⟨S, 0, none⟩)) rfl (fun W hW => by clear hW; go_simp) (fun _ _ _ h => h) ?_
                  simp only [Act.put, List.setIfInBounds_toArray, List.set_cons_zero, List.set_cons_succ]
                  refine seqI_do rfl (wp_val (bs_i2 _ (fun _ => rfl) _ _ 0 1 rfl) ⟨by show (World.alloc _ _).cell? _ = _; have q4 := HD5.out.c4; have ql := HD5.out.lt; go_simp, ?_⟩)
                  simp only [Act.put, List.setIfInBounds_toArray, List.set_cons_zero, List.set_cons_succ]
                  refine seqI_call 11 #[.pointer (some ⟨S, 0, none⟩), .slice (some ⟨w5.drew.heap.size, 0, none⟩) 2 2] rfl (by go_simp) (pick_lit S (k + 46) [0, 1] (fun x => 0 ≤ x ∧ x ≤ 1) _ _ _ HSd.out (by omega) rfl rfl (by decide) (by decide) (by decide)) ?_
                  rintro e w8 ⟨pr, rfl, ⟨pr0, pr1⟩, hst, hk'⟩
                  have hk' : Keeps S w5 w8 := hkd.trans hk'
                  have HS8 := Lib.hid hst
                  have HK8 := Lib.hid (HK5.out.trans hk')
                  have HF8 := Lib.hid (HF5.out.keeps hk' hFS)
                  have HD8 := Lib.hid (HD5.out.keeps hk' hDS)
                  have HO8 := Lib.hid (own_keeps HO5.out hk' hSW)
                  refine ⟨_, rfl, HD8.out.c4, ?_⟩
                  simp only [Act.put, List.setIfInBounds_toArray, List.set_cons_zero, List.set_cons_succ]
                  clear hst hk' HSd hkd HS5 HK5 HF5 HD5 HO5
                  refine seqI_take (v := .agg #[.string ⟨#[57, 57]⟩, .int .i64 pr, .bool true]) rfl (fun W hW => by clear hW; go_simp) (fun _ _ _ h => h) ?_
                  simp only [Act.put, List.setIfInBounds_toArray, List.set_cons_zero, List.set_cons_succ]
                  have hk9 : Keeps S w8 (w8.alloc (.cells #[.string ⟨#[57, 57]⟩, .int .i64 pr, .bool true] 120)) := (Keeps.refl _ _).alloc _
                  have HF9 := Lib.hid (HF8.out.keeps hk9 hFS)
                  have HD9 := Lib.hid (HD8.out.keeps hk9 hDS)
                  have HO9 := Lib.hid (own_keeps HO8.out hk9 hSW)
                  have hW8 : WB ≤ w8.heap.size := Nat.le_trans hW2 (Nat.le_of_lt HD8.out.lt)
                  have hDlt := HD8.out.lt
                  refine seqI_do rfl (wp_val (bs_r1 _ _ _ 18 ⟨#[57, 57]⟩ pr true rfl rfl) ⟨HD9.out.c4, ?_⟩)
                  simp only [Act.put, List.setIfInBounds_toArray, List.set_cons_zero, List.set_cons_succ]
                  refine seqI_do rfl (wp_append_own_at (.tmp 14) (.tmp 19) 61 rfl WB 120 i1 _ 3 32 Tryz.underlying61 hi1 hy0 hy1 hy2 rfl (by omega) (.slice ra rates.length rc) rates.length _ rfl HO9.out ⟨w8.heap.size, 0, none⟩ 1 1 [.string ⟨#[57, 57]⟩, .int .i64 pr, .bool true] rfl rfl (fun j u hj => by rw [add0]; match j, hj with | 0, hj => simp at hj; subst hj; go_simp | 1, hj => simp at hj; subst hj; go_simp | 2, hj => simp at hj; subst hj; go_simp) (by simp [Value.oneCell']) (by simp only [maxLen]; omega) (by omega) (by simp; omega) ?_)
                  intro v10 w10 hown10 hgr10 hat10
                  obtain ⟨a12, c12, rfl⟩ := own_shape hown10
                  have HD10 := Lib.hid (HD9.out.grown hgr10 hvD)
                  have HF10 := Lib.hid (HF9.out.grown hgr10 hvF)
                  have HK10 : Hid (Keeps S w w10) := HK8.out.grown hgr10 (fun b e => by have := (HO9.out.lt b e).1; omega)
                  have HS10 : Hid (StreamOk w10 S (k + 49)) := (HS8.out.mono (by omega)).upto (upto_grown hgr10 (by omega) (fun b e => by have := (HO9.out.lt b e).1; omega))
                  have HO10 : Hid (w10.ownsRow WB 120 3 (.slice a12 (rates.length + 1) c12) (rates ++ [Rate.mk [57, 57] pr true]).length (((rates ++ [Rate.mk [57, 57] pr true]).map Rate.cells).flatten)) := by
                    show World.ownsRow _ _ _ _ _ _ _
                    rw [rcells_snoc, List.length_append]
                    exact hown10
                  have hvD2 : (Value.slice a12 (rates.length + 1) c12).ownBlock ≠ some D := fun e => by
                    rcases hat10 with h | h
                    · exact hvD (h ▸ e)
                    · rw [h] at e; injection e with e; simp at e; omega
                  have hvF2 : (Value.slice a12 (rates.length + 1) c12).ownBlock ≠ some F := fun e => by have := (HO10.out.lt _ e).1; omega
                  refine ⟨HD10.out.c4, ?_⟩
                  simp only [Act.put, List.setIfInBounds_toArray, List.set_cons_zero, List.set_cons_succ]
                  clear hown10 hgr10 hat10 HO9 HF9 HD9 HS8 HK8 HF8 HD8 HO8 hk9 hvD hvF
                  have hvF := hvF2
                  refine seqI_take (v := .pointer (some ⟨D, 4, none⟩)) rfl (fun W hW => by clear hW; go_simp) (fun _ _ _ h => h) ?_
                  simp only [Act.put, List.setIfInBounds_toArray, List.set_cons_zero, List.set_cons_succ]
                  have HD11 := Lib.hid (HD10.out.s4 (.slice a12 (rates.length + 1) c12))
                  have HF11 := Lib.hid (HF10.out.set D 4 (.slice a12 (rates.length + 1) c12))
                  have HO11 : Hid ((w10.setCell ⟨D, 4, none⟩ (.slice a12 (rates.length + 1) c12)).ownsRow WB 120 3 (.slice a12 (rates.length + 1) c12) (rates ++ [Rate.mk [57, 57] pr true]).length (((rates ++ [Rate.mk [57, 57] pr true]).map Rate.cells).flatten)) := own_set HO10.out hvD2
                  have HK11 : Hid (Keeps S w (w10.setCell ⟨D, 4, none⟩ (.slice a12 (rates.length + 1) c12))) := HK10.out.setCell_new (p := ⟨D, 4, none⟩) hDw _
                  have HS11 : Hid (StreamOk (w10.setCell ⟨D, 4, none⟩ (.slice a12 (rates.length + 1) c12)) S (k + 50)) := (HS10.out.mono (by omega)).upto ((Below.refl (S + 1) w10).setCell (p := ⟨D, 4, none⟩) (by show S + 1 ≤ D; omega) _)
                  obtain ⟨hDl, z0, z1, z2, z3, z4, zf⟩ := HD10.out
                  refine seqI_nil (Or.inl ?_)
                  show Oper.wp _ (⟨none, .store 61 (.tmp 21) (.tmp 20), _, _, _, none⟩ : Oper) _ _ _ _
                  refine wp_skip (w' := w10.setCell ⟨D, 4, none⟩ (.slice a12 (rates.length + 1) c12)) (by go_simp) ?_
                  simp only [Act.put]
                  clear hDl z0 z1 z2 z3 z4 zf HD10 HF10 HO10 HK10 HS10
                  generalize w10.setCell ⟨D, 4, none⟩ (.slice a12 (rates.length + 1) c12) = wE at HD11 HF11 HO11 HK11 HS11 ⊢
                  have HDE := HD11
                  have HFE := HF11
                  have HSE := HS11
                  have HKE := HK11
                  have HOE := HO11
                  clear HD11 HF11 HS11 HK11 HO11
                  obtain ⟨hDl, z0, z1, z2, z3, z4, zf⟩ := HDE.out
                  have HTH := Lib.hid HFE.out.th
                  have HC9 := Lib.hid (World.rangeAt_setCells_same wE F 0 [.int .i64 df, .int .i64 ds, .int .i64 dl, .int .i64 dt, .slice a12 (rates.length + 1) c12] HTH.out)
                  have HS9 : Hid (StreamOk (wE.setCells F 0 [.int .i64 df, .int .i64 ds, .int .i64 dl, .int .i64 dt, .slice a12 (rates.length + 1) c12]) S (k + 50)) := (HSE.out.mono (by omega)).upto (below_setCells hSF _ _ _)
                  have HK9 : Hid (Keeps S w (wE.setCells F 0 [.int .i64 df, .int .i64 ds, .int .i64 dl, .int .i64 dt, .slice a12 (rates.length + 1) c12])) := keeps_setCells (Nat.le_of_eq HFW.out.symm) _ _ _ HKE.out
                  have HO9 : Hid ((wE.setCells F 0 [.int .i64 df, .int .i64 ds, .int .i64 dl, .int .i64 dt, .slice a12 (rates.length + 1) c12]).ownsRow WB 120 3 (.slice a12 (rates.length + 1) c12) (rates ++ [Rate.mk [57, 57] pr true]).length (((rates ++ [Rate.mk [57, 57] pr true]).map Rate.cells).flatten)) := own_set (own_set (own_set (own_set (own_set HOE.out hvF) hvF) hvF) hvF) hvF
                  clear HOE HSE HKE HDE
                  as_aux_lemma =>
                    go_wp2_with (refine wpList_store_mid rfl 63 (.tmp 2) (.tmp 52) rfl F 0 #[.int .i64 df, .int .i64 ds, .int .i64 dl, .int .i64 dt, .slice a12 (rates.length + 1) c12] rfl rfl HTH.out Tryz.deckSize (by simp [Value.oneCell']) ?_; generalize World.setCells wE F 0 _ = W9 at HC9 HS9 HK9 HO9 ⊢)
                    refine bodyPost_ret (?_ : _ = Result.ok (.agg #[.int .i64 df, .int .i64 ds, .int .i64 dl, .int .i64 dt, .slice a12 (rates.length + 1) c12]) _) rfl ?_
                    · exact results_cell1 (t := 2) (by rfl) _ _ _ Tryz.isAgg63 Tryz.sizeOf63 (by rfl) [.int .i64 df, .int .i64 ds, .int .i64 dl, .int .i64 dt, .slice a12 (rates.length + 1) c12] rfl (fun j v hj => by have := HC9.out j v hj; rw [Nat.zero_add] at this; exact this)
                    exact ⟨⟨df, ds, dl, dt, a12, rates.length + 1, c12, rates ++ [Rate.mk [57, 57] pr true]⟩, rfl, ⟨own_le HO9.out hwW, ⟨by show (rates ++ [Rate.mk [57, 57] pr true]).length ≤ 100; rw [List.length_append, List.length_singleton]; omega, rates_snoc HRI.out (by show List.length _ ≤ 100; first | omega | simp) (by show -2000000000000 ≤ pr; omega) (by show pr ≤ 2000000000000; omega)⟩, ⟨⟨by show -2000000000000 ≤ (df : Int); omega, by show (df : Int) ≤ 2000000000000; omega⟩, ⟨by show -2000000000000 ≤ (ds : Int); omega, by show (ds : Int) ≤ 2000000000000; omega⟩, ⟨by show -2000000000000 ≤ (dl : Int); omega, by show (dl : Int) ≤ 2000000000000; omega⟩, ⟨by show -2000000000000 ≤ (dt : Int); omega, by show (dt : Int) ≤ 2000000000000; omega⟩⟩⟩, HS9.out, HK9.out⟩
end Go.Proofs.YtppinnjdaoaddaaGreatDoor
