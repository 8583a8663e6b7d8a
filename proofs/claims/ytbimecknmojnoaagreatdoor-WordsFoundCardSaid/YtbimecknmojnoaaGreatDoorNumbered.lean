/- What is proved here: numbered of the statements answers true. No condition. -/
import Derived.Test.YtbimecknmojnoaaGreatDoorSplitWalk
import Derived.Test.YtbimecknmojnoaaGreatDoorSplitPost
import Derived.Maps.AppendAt
import Derived.Lib.ConvBytes
set_option linter.unusedVariables false
set_option linter.unusedSimpArgs false
namespace Go.Proofs.YtbimecknmojnoaaGreatDoor
open Go.RowKit

theorem atoi_l (s : List UInt8) (n : Int) (hl : s.length ≤ 18) (h : Lib.atoi s = some n) (w : World) : Calls Tryz.prog 224 #[.string ⟨s.toArray⟩] w fun e w' => e = .returned (.tuple #[.int .i64 n, .nilIface]) ∧ Below w.heap.size w w' := (Tryz.strconv_Atoi ⟨s.toArray⟩ n hl h w).mono (fun e w' ⟨h1, t, h2⟩ => ⟨h1, by rw [h2]; exact ⟨rfl, rfl, rfl, by rw [Lib.bytesWorld_size]; omega, fun k hk => Lib.bytesWorld_at_old w _ _ k hk⟩⟩)

set_option maxRecDepth 100000 in
set_option maxHeartbeats 1000000 in
theorem spanOf_any (w : World) (f t : List UInt8) (a b : Int) (hf : f.length ≤ 16) (ht : t.length ≤ 16) (hf1 : 1 ≤ f.length) (ht1 : 1 ≤ t.length) (ha : Lib.atoi (f.drop 1) = some a) (hb : Lib.atoi (t.drop 1) = some b) : Calls Tryz.prog 187 #[.agg #[.string ⟨f.toArray⟩, .string ⟨t.toArray⟩]] w fun e w' => e = .returned (.agg #[.int .i64 ((f.length : Int) - 1), .int .i64 a, .int .i64 b]) ∧ Below w.heap.size w w' := by
  have HA := Lib.hid (fun w => atoi_l (f.drop 1) a (by rw [List.length_drop]; omega) ha w)
  have HB := Lib.hid (fun w => atoi_l (t.drop 1) b (by rw [List.length_drop]; omega) hb w)
  clear ha hb
  go_enter Tryz.func187, Tryz.ntmps187
  go_wp2_with fail
  rw [extract_drop]
  refine (HA.out _).mono ?_
  rintro e w1 ⟨rfl, hb1⟩
  obtain ⟨qc, qf⟩ := bcell hb1
  have hz1 : w.heap.size + 1 < w1.heap.size := by have := hb1.size; simp at this; omega
  have hz0 : w.heap.size < w1.heap.size := by omega
  have HB1 : Hid (Below w.heap.size w w1) := ext_trans (ext_alloc (ext_alloc (Below.refl _ _))) hb1
  have c0 : w1.cell? ⟨w.heap.size, 0, none⟩ = some (.string ⟨f.toArray⟩) := (qc _ 0 (by simp; omega)).trans (by go_simp)
  have c1 : w1.cell? ⟨w.heap.size, 1, none⟩ = some (.string ⟨t.toArray⟩) := (qc _ 1 (by simp; omega)).trans (by go_simp)
  have r0 : w1.cell? ⟨w.heap.size + 1, 0, none⟩ = some (.int .i64 0) := (qc _ 0 (by simp)).trans (by go_simp)
  have r1 : w1.cell? ⟨w.heap.size + 1, 1, none⟩ = some (.int .i64 0) := (qc _ 1 (by simp)).trans (by go_simp)
  have r2 : w1.cell? ⟨w.heap.size + 1, 2, none⟩ = some (.int .i64 0) := (qc _ 2 (by simp)).trans (by go_simp)
  have rf : ∀ j, w1.frozen? ⟨w.heap.size + 1, j, none⟩ = false := fun j => (qf _ j (by simp)).trans (by go_simp)
  clear qc qf hb1
  as_aux_lemma =>
    go_wp2_with fail
    rw [extract_drop]
    refine (HB.out _).mono ?_
    rintro e w2 ⟨rfl, hb2⟩
    obtain ⟨qc, qf⟩ := bcell hb2
    have HB2 := Lib.hid (ext_trans HB1.out hb2)
    have d0 := (qc _ 0 hz0).trans c0
    have s0 := (qc _ 0 hz1).trans r0
    have s1 := (qc _ 1 hz1).trans r1
    have s2 := (qc _ 2 hz1).trans r2
    have sf : ∀ j, w2.frozen? ⟨w.heap.size + 1, j, none⟩ = false := fun j => (qf _ j hz1).trans (rf j)
    clear qc qf hb2 c0 c1 r0 r1 r2 rf
    have HTX : Hid (w2.there (w.heap.size + 1) 0 3) := there3 s0 s1 s2 sf
    as_aux_lemma =>
      go_wp2_with fail
      rw [row3]
      have HC9 := Lib.hid (World.rangeAt_setCells_same w2 (w.heap.size + 1) 0 [.int .i64 ((f.length : Int) - 1), .int .i64 a, .int .i64 b] (HTX.out))
      have HB9 := Lib.hid (setCells_ext (B := w.heap.size + 1) (Nat.le_succ _) [.int .i64 ((f.length : Int) - 1), .int .i64 a, .int .i64 b] w2 0 HB2.out)
      generalize World.setCells w2 (w.heap.size + 1) 0 _ = W9 at HC9 HB9 ⊢
      refine bodyPost_ret (?_ : _ = Result.ok (.agg #[.int .i64 ((f.length : Int) - 1), .int .i64 a, .int .i64 b]) _) rfl ?_
      · exact results_cell1 (t := 2) (by rfl) _ _ _ Tryz.isAgg221 Tryz.sizeOf221 (by rfl) [.int .i64 ((f.length : Int) - 1), .int .i64 a, .int .i64 b] rfl (fun j v hj => by have := HC9.out j v hj; rw [Nat.zero_add] at this; exact this)
      exact ⟨rfl, HB9.out⟩

def r0S : List UInt8 := [43, 49, 48, 48, 48]
def r1S : List UInt8 := [43, 49, 48, 48, 57]
theorem Tryz.infoSpan : (Tryz.prog.info? 221).map (fun i => (i.zero, i.size, i.bytes)) = some (some (.agg #[.int .i64 0, .int .i64 0, .int .i64 0]), 3, 24) := by kernel_rfl

set_option maxRecDepth 100000 in
set_option maxHeartbeats 1000000 in
theorem checkRanges_one (w : World) (b : Nat) (hb : b < w.heap.size) (f t : List UInt8) (c0 : w.cell? ⟨b, 0, none⟩ = some (.string ⟨f.toArray⟩)) (c1 : w.cell? ⟨b, 1, none⟩ = some (.string ⟨t.toArray⟩)) (hf : f.length = 5) (ht : t.length = 5) (hnf : isNumB f = true) (hnt : isNumB t = true) (hlt : Op.bytesLess f t = true) : Calls Tryz.prog 165 #[.slice (some ⟨b, 0, none⟩) 1 1] w fun e w' => e = .returned (.int .i64 0) ∧ Below w.heap.size w w' := by
  have HNF := Lib.hid (fun w => isNumber_l f w (by omega))
  have HNT := Lib.hid (fun w => isNumber_l t w (by omega))
  rw [hnf] at HNF
  rw [hnt] at HNT
  clear hnf hnt
  suffices h : Calls Tryz.prog 124 #[.slice (some ⟨b, 0, none⟩) 1 1, .int .i64 1] w fun e w' => e = .returned (.int .i64 0) ∧ Below w.heap.size w w' by
    go_enter Tryz.func165, Tryz.ntmps165
    go_wp2_with (go_at_call 124; refine h.mono ?_; rintro e w' ⟨rfl, hB⟩)
    go_ret
    exact ⟨rfl, hB⟩
  go_enter Tryz.func124, Tryz.ntmps124
  go_wp2_with fail
  go_loopw [14] (fun it wr => ∃ k : Nat, k ≤ 1 ∧ it = .int .i64 k ∧ Hid (Below w.heap.size w wr)) (fun it _ => 1 - (intOf it).toNat)
  case atStart => exact ⟨0, Nat.zero_le _, rfl, Below.refl _ _⟩
  case round =>
    obtain ⟨k, hk, rfl, HB⟩ := hrel
    by_cases hk0 : k = 0
    · subst hk0
      have d0 := (HB.out.cell (p := ⟨b, 0, none⟩) hb).trans c0
      have d1 := (HB.out.cell (p := ⟨b, 1, none⟩) hb).trans c1
      clear c0 c1
      as_aux_lemma =>
        go_wp2_with fail
        refine (HNF.out _).mono ?_
        rintro e w2 ⟨rfl, hb2⟩
        obtain ⟨qc, qf⟩ := bcell hb2
        have hz2 : wr.heap.size < w2.heap.size := by have := hb2.size; simp at this; omega
        have e0 : w2.cell? ⟨wr.heap.size, 0, none⟩ = some (.string ⟨f.toArray⟩) := (qc _ 0 (by simp)).trans (by go_simp)
        have e1 : w2.cell? ⟨wr.heap.size, 1, none⟩ = some (.string ⟨t.toArray⟩) := (qc _ 1 (by simp)).trans (by go_simp)
        have HB2 : Hid (Below w.heap.size w w2) := ext_trans (ext_alloc HB.out) hb2
        clear qc qf hb2 d0 d1
        as_aux_lemma =>
          go_wp2_with fail
          refine (HNT.out _).mono ?_
          rintro e w3 ⟨rfl, hb3⟩
          obtain ⟨qc, qf⟩ := bcell hb3
          have f0 := (qc _ 0 hz2).trans e0
          have f1 := (qc _ 1 hz2).trans e1
          have HB3 := Lib.hid (ext_trans HB2.out hb3)
          clear qc qf hb3 e0 e1
          as_aux_lemma =>
            go_wp2_with fail
            go_roundw
            case rel => exact ⟨1, by omega, by go_num, HB3.out⟩
            case measure => simp [intOf]
    · obtain rfl : k = 1 := by omega
      clear c0 c1
      go_wp2_with fail
      go_ret
      exact ⟨rfl, HB.out⟩

set_option maxRecDepth 100000 in
set_option maxHeartbeats 1000000 in
theorem spans_one (w : World) (b : Nat) (hb : b < w.heap.size) (f t : List UInt8) (x y : Int) (c0 : w.cell? ⟨b, 0, none⟩ = some (.string ⟨f.toArray⟩)) (c1 : w.cell? ⟨b, 1, none⟩ = some (.string ⟨t.toArray⟩)) (hf : f.length = 5) (ht : t.length = 5) (ha : Lib.atoi (f.drop 1) = some x) (hb' : Lib.atoi (t.drop 1) = some y) : Calls Tryz.prog 166 #[.slice (some ⟨b, 0, none⟩) 1 1] w fun e w' => ∃ v, e = .returned v ∧ w'.ownsRow w.heap.size 221 3 v 1 [.int .i64 4, .int .i64 x, .int .i64 y] ∧ Below w.heap.size w w' := by
  have HS := Lib.hid (fun w => spanOf_any w f t x y (by omega) (by omega) (by omega) (by omega) ha hb')
  obtain ⟨i1, hi1, hy0, hy1, hy2⟩ := info_parts Tryz.infoSpan
  rw [hf] at HS
  clear ha hb' hf ht
  go_enter Tryz.func166, Tryz.ntmps166
  go_wp2_with fail
  go_loopw [3, 8] (fun v it wr => ∃ k : Nat, k ≤ 1 ∧ (k = 0 → v = .slice none 0 0) ∧ it = .int .i64 k ∧ Hid (wr.ownsRow w.heap.size 221 3 v k (([.int .i64 4, .int .i64 x, .int .i64 y] : List Value).take (3 * k))) ∧ Hid (Below w.heap.size w wr)) (fun _ it _ => 1 - (intOf it).toNat)
  case atStart => exact ⟨0, Nat.zero_le _, fun _ => rfl, rfl, World.ownsRow_nil _ _ _ _, Below.refl _ _⟩
  case round =>
    obtain ⟨k, hk, hnil, rfl, HO, HB⟩ := hrel
    by_cases hk0 : k = 0
    · subst hk0
      obtain rfl := hnil rfl
      have d0 := (HB.out.cell (p := ⟨b, 0, none⟩) hb).trans c0
      have d1 := (HB.out.cell (p := ⟨b, 1, none⟩) hb).trans c1
      clear c0 c1
      as_aux_lemma =>
        go_wp2_with fail
        refine (HS.out _).mono ?_
        rintro e w2 ⟨rfl, hb2⟩
        have HB2 : Hid (Below w.heap.size w w2) := ext_trans (ext_alloc HB.out) hb2
        clear hb2 d0 d1
        as_aux_lemma =>
          go_wp2_with (at_builtin; refine wpList_append_own_at _ rfl (.tmp 12) (.tmp 15) 218 rfl w.heap.size 221 i1 _ 3 24 Tryz.underlying218 hi1 hy0 hy1 hy2 rfl (by omega) _ 0 [] rfl (World.ownsRow_nil _ _ _ _) ⟨w2.heap.size, 0, none⟩ 1 1 [.int .i64 ((5 : Nat) - 1 : Int), .int .i64 x, .int .i64 y] rfl rfl (fun j u hj => by rw [show (⟨w2.heap.size, 0, none⟩ : Addr).add j = ⟨w2.heap.size, j, none⟩ by unfold Addr.add; split <;> simp_all]; match j, hj with | 0, hj => simp at hj; subst hj; go_simp | 1, hj => simp at hj; subst hj; go_simp | 2, hj => simp at hj; subst hj; go_simp) (by simp [Value.oneCell']) (by decide) (by omega) (by have := HB2.out.size; simp; omega) ?_; intro v9 w9 hown9 hgr9 _ _)
          have HO9 := Lib.hid hown9
          have HB9 : Hid (Below w.heap.size w w9) := ext_trans (ext_alloc HB2.out) (below_of_grown_none hgr9)
          clear hown9 hgr9
          as_aux_lemma =>
            go_wp2_with fail
            go_roundw
            case rel => exact ⟨1, by omega, fun h => absurd h (by decide), by go_num, HO9.out, HB9.out⟩
            case measure => simp [intOf]
    · obtain rfl : k = 1 := by omega
      clear c0 c1
      go_wp2_with fail
      go_ret
      exact ⟨_, rfl, HO.out, HB.out⟩

set_option maxRecDepth 100000 in
set_option maxHeartbeats 1000000 in
theorem count_one (w : World) (b : Nat) (hb : b < w.heap.size) (c0 : w.cell? ⟨b, 0, none⟩ = some (.string ⟨r0S.toArray⟩)) (c1 : w.cell? ⟨b, 1, none⟩ = some (.string ⟨r1S.toArray⟩)) : Calls Tryz.prog 79 #[.slice (some ⟨b, 0, none⟩) 1 1] w fun e w' => e = .returned (.tuple #[.int .i64 10, .int .i64 0]) ∧ Below w.heap.size w w' := by
  have HC := Lib.hid (checkRanges_one w b hb r0S r1S c0 c1 rfl rfl (by decide +kernel) (by decide +kernel) (by decide +kernel))
  have HSP : Hid (∀ W, Below w.heap.size w W → Calls Tryz.prog 166 #[.slice (some ⟨b, 0, none⟩) 1 1] W fun e w' => ∃ v, e = .returned v ∧ w'.ownsRow W.heap.size 221 3 v 1 [.int .i64 4, .int .i64 1000, .int .i64 1009] ∧ Below W.heap.size W w') := fun W hW => spans_one W b (Nat.lt_of_lt_of_le hb hW.size) r0S r1S 1000 1009 ((hW.cell (p := ⟨b, 0, none⟩) hb).trans c0) ((hW.cell (p := ⟨b, 1, none⟩) hb).trans c1) rfl rfl (by decide +kernel) (by decide +kernel)
  clear c0 c1
  go_enter Tryz.func79, Tryz.ntmps79
  go_wp2_with fail
  refine HC.out.mono ?_
  rintro e w1 ⟨rfl, hb1⟩
  have HB1 := Lib.hid hb1
  clear hb1
  go_wp2_with fail
  refine (HSP.out _ HB1.out).mono ?_
  rintro e w2 ⟨v, rfl, hown, hb2⟩
  have HB2 := Lib.hid (ext_trans HB1.out hb2)
  obtain ⟨-, h9⟩ | ⟨g, cp, cu, rfl, hg⟩ := hown.2
  · cases h9
  have hcs := hown.cells (g := g) rfl
  have hg2 := (hown.lt g rfl).2
  have aa : ∀ j, (⟨g, 0, none⟩ : Addr).add j = ⟨g, j, none⟩ := fun j => by unfold Addr.add; split <;> simp_all
  have s0 : w2.cell? ⟨g, 0, none⟩ = some (.int .i64 4) := by rw [← aa 0]; exact hcs 0 _ rfl
  have s1 : w2.cell? ⟨g, 1, none⟩ = some (.int .i64 1000) := by rw [← aa 1]; exact hcs 1 _ rfl
  have s2 : w2.cell? ⟨g, 2, none⟩ = some (.int .i64 1009) := by rw [← aa 2]; exact hcs 2 _ rfl
  clear hown hg hcs aa hb2
  as_aux_lemma =>
    go_wp2_with fail
    go_loopw [5, 16] (fun acc it wr => ∃ k : Nat, k ≤ 1 ∧ acc = .int .i64 (10 * (k : Int)) ∧ it = .int .i64 k ∧ Hid (Below w2.heap.size w2 wr)) (fun _ it _ => 1 - (intOf it).toNat)
    case atStart => exact ⟨0, Nat.zero_le _, rfl, rfl, Below.refl _ _⟩
    case round =>
      obtain ⟨k, hk, rfl, rfl, HB⟩ := hrel
      by_cases hk0 : k = 0
      · subst hk0
        have d0 := (HB.out.cell (p := ⟨g, 0, none⟩) hg2).trans s0
        have d1 := (HB.out.cell (p := ⟨g, 1, none⟩) hg2).trans s1
        have d2 := (HB.out.cell (p := ⟨g, 2, none⟩) hg2).trans s2
        clear s0 s1 s2
        go_wp2_with fail
        go_roundw
        case rel => exact ⟨1, by omega, by go_num, by go_num, ext_alloc HB.out⟩
        case measure => simp [intOf]
      · obtain rfl : k = 1 := by omega
        clear s0 s1 s2
        go_wp2_with fail
        go_ret2
        exact ⟨rfl, ext_trans HB2.out HB.out⟩

set_option maxRecDepth 100000 in
theorem numbered_any (w : World) : Calls Tryz.prog 12 #[] w fun e w' => e = .returned (.bool true) ∧ Below w.heap.size w w' := by
  have HC : Hid (Calls Tryz.prog 79 #[.slice (some ⟨w.heap.size, 0, none⟩) 1 1] (w.alloc (.cells #[.string ⟨#[43, 49, 48, 48, 48]⟩, .string ⟨#[43, 49, 48, 48, 57]⟩] 126)) fun e w' => e = .returned (.tuple #[.int .i64 10, .int .i64 0]) ∧ Below (w.alloc (.cells #[.string ⟨#[43, 49, 48, 48, 48]⟩, .string ⟨#[43, 49, 48, 48, 57]⟩] 126)).heap.size (w.alloc (.cells #[.string ⟨#[43, 49, 48, 48, 48]⟩, .string ⟨#[43, 49, 48, 48, 57]⟩] 126)) w') := count_one _ w.heap.size (by simp) (by go_simp; rfl) (by go_simp; rfl)
  go_enter Tryz.func12, Tryz.ntmps12
  go_wp2_with fail
  refine HC.out.mono ?_
  rintro e w1 ⟨rfl, hb1⟩
  have HB1 : Hid (Below w.heap.size w w1) := ext_trans (ext_alloc (Below.refl _ _)) hb1
  go_wp2_with fail
  go_ret
  exact ⟨rfl, HB1.out⟩
end Go.Proofs.YtbimecknmojnoaaGreatDoor
