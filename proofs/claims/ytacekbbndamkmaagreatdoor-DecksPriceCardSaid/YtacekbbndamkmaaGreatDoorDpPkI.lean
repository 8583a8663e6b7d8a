/- What is proved here: lemmas and contracts for the statement, put together out of smaller texts (DkpLin, StrMath, Changed, DkpStr, CarrPf, CarrCarried, CarrSame, WhenL). No condition beyond those stated. -/
import Derived.Test.YtacekbbndamkmaaGreatDoorDpPkD
import Derived.Test.YtacekbbndamkmaaGreatDoorDpPkB
import Derived.Test.YtacekbbndamkmaaGreatDoorDpPkA
import Derived.Laws.Runes
import Derived.Deep.QuietTactic
import Derived.BigQuiet
import Derived.IntWalk
import Derived.Test.YtacekbbndamkmaaGreatDoorDpPkF
import Derived.Test.YtacekbbndamkmaaGreatDoorDpPkG
import Derived.Deep.DeepCutAuto
import Derived.Test.YtacekbbndamkmaaGreatDoorDpPkC
import Derived.Test.YtacekbbndamkmaaGreatDoorShelfOff
import Derived.Laws.StructEq
set_option linter.unusedVariables false
set_option linter.unusedSimpArgs false
namespace Go.Proofs.YtacekbbndamkmaaGreatDoor
open Go.RowKit

set_option maxRecDepth 100000 in
/-- The first of two strings that is not empty; the second is not. -/
theorem orDash_any (a b : List UInt8) (hb : b ≠ []) (B : Nat) (w : World) (hB : B < w.heap.size) (h0 : w.cell? ⟨B, 0, none⟩ = some (.string ⟨a.toArray⟩)) (h1 : w.cell? ⟨B, 1, none⟩ = some (.string ⟨b.toArray⟩)) : Calls Tryz.prog 72 #[.slice (some ⟨B, 0, none⟩) 2 2] w fun r w' => r = .returned (.string ⟨(if a = [] then b else a).toArray⟩) ∧ w = w' := by
  cases b with
  | nil => exact absurd rfl hb
  | cons y b =>
    cases a with
    | nil =>
      go_enter Tryz.func72, Tryz.ntmps72
      go_wp2_with fail
      go_loopw [8] (fun i wr => ∃ k : Nat, k ≤ 1 ∧ i = .int .i64 k ∧ wr = w) (fun i _ => 2 - (intOf i).toNat)
      case atStart => exact ⟨0, by omega, rfl, rfl⟩
      case round =>
        obtain ⟨k, hk, rfl, rfl⟩ := hrel
        have hkc : k = 0 ∨ k = 1 := by omega
        rcases hkc with rfl | rfl
        · go_wp2_with fail
          go_roundw
          case rel => exact ⟨1, by omega, by go_num, trivial⟩
          case measure => simp [intOf]
        · go_wp2_with fail
          go_ret
          exact ⟨rfl, rfl⟩
    | cons x a =>
      go_enter Tryz.func72, Tryz.ntmps72
      go_wp2_with fail
      go_loopw [8] (fun i wr => i = .int .i64 0 ∧ wr = w) (fun i _ => 0)
      case atStart => exact ⟨rfl, rfl⟩
      case round =>
        obtain ⟨rfl, rfl⟩ := hrel
        go_wp2_with fail
        go_ret
        exact ⟨rfl, rfl⟩
theorem bl_dkl0 (e : Operand → Value) (he : ∀ v, e (.const v) = v) (o : Oper) (w : World) (i0 : Nat) (p0 : ByteArray) (p1 : ByteArray) (ho : o.op = .buildSlice 38 2 #[(0, .tmp i0), (1, .const (.string p1))]) (h0 : e (.tmp i0) = .string p0) :
   (execOp e o).run Tryz.prog w = .ok (.value (.slice (some ⟨w.heap.size, 0, none⟩) 2 2)) (w.alloc (.cells #[.string p0, .string p1] 9)) := by
  unfold execOp
  rw [ho]
  simp only [List.map_toArray, List.map_cons, List.map_nil, he, h0]
  kernel_rfl
set_option maxRecDepth 100000 in
set_option maxHeartbeats 8000000 in
theorem deckLines_any (w : World) (d : Deck) (hd : DeckFine w d) (S : Nat) (hT : TabW S w) (hS : S ≤ w.heap.size) : Calls Tryz.prog 32 #[.agg d.cells.toArray] w (OutStr (deckT d.from_ d.setup d.least d.step d.rates) w) := by
  have hr := hd.row
  have hl := hd.row.len
  have h1 := hd.b1
  have h2 := hd.b2
  have h3 := hd.b3
  have h4 := hd.b4
  clear hd
  obtain ⟨df, ds, dl, dp, da, dn, dc, rates⟩ := d
  simp only at hr hl h1 h2 h3 h4 ⊢
  subst hl
  show Calls Tryz.prog 32 #[.agg #[.int .i64 df, .int .i64 ds, .int .i64 dl, .int .i64 dp, .slice da rates.length dc]] w _
  have HR := Lib.hid hr
  have HLEN : Hid (ratesT rates rates.length = (rates.map rateT).flatten) := by show _ = _; unfold ratesT; rw [List.take_length]
  have HDT : Hid (deckT df ds dl dp rates = headT df ds dl dp ++ ratesT rates rates.length) := by show _ = _; rw [HLEN.out]; rfl
  have HRL : Hid (∀ i, i ≤ rates.length → (ratesT rates i).length ≤ 100100 * i) := ratesT_len hr
  have hfew := hr.few
  have hHL := headT_len h1 h2 h3 h4
  have hq0 := itoa_len df h1.1 h1.2
  have hq1 := itoa_len ds h2.1 h2.2
  have hq2 := itoa_len dl h3.1 h3.2
  have hq3 := itoa_len dp h4.1 h4.2
  have HTX : Hid ([100, 101, 99, 107, 32] ++ Lib.itoa df ++ [32] ++ Lib.itoa ds ++ [32] ++ Lib.itoa dl ++ [32] ++ Lib.itoa dp ++ [10] = headT df ds dl dp) := rfl
  generalize headT df ds dl dp = HT at HTX HDT hHL
  clear HLEN hr
  generalize deckT df ds dl dp rates = DT at HDT ⊢
  have HX0 : Hid (Blk (w.alloc (.cells #[.int .i64 df, .int .i64 ds, .int .i64 dl, .int .i64 dp, .slice da rates.length dc] 28)) w.heap.size [.int .i64 df, .int .i64 ds, .int .i64 dl, .int .i64 dp, .slice da rates.length dc] 28) := Blk.new w _ _
  have HA : Hid (Below w.heap.size w (w.alloc (.cells #[.int .i64 df, .int .i64 ds, .int .i64 dl, .int .i64 dp, .slice da rates.length dc] 28))) := ext_alloc (Below.refl _ _)
  go_enter Tryz.func32, Tryz.ntmps32
  as_aux_lemma =>
    go_upto_region 1 with (fail)
    generalize w.alloc (.cells #[.int .i64 df, .int .i64 ds, .int .i64 dl, .int .i64 dp, .slice da rates.length dc] 28) = w0 at HX0 HA ⊢
    obtain ⟨X, hX⟩ : ∃ X, X = w.heap.size := ⟨_, rfl⟩
    have hwX : w.heap.size ≤ X := by omega
    rw [← hX] at HX0
    simp only [← hX]
    clear hX
    have hXB0 := HX0.out.lt
    have hSB0 : S ≤ w0.heap.size := Nat.le_trans hS HA.out.size
    have HX : Hid (Blk (w0.alloc (.cells #[.pointer none, .slice none 0 0] 101)) X [.int .i64 df, .int .i64 ds, .int .i64 dl, .int .i64 dp, .slice da rates.length dc] 28) := HX0.out.alloc _
    have HBD : Hid (Lib.IsBuilder 101 5 w0.heap.size w0.heap.size [] (w0.alloc (.cells #[.pointer none, .slice none 0 0] 101))) := Lib.fresh_isBuilder _ _ w0
    have HB1 : Hid (Below w.heap.size w (w0.alloc (.cells #[.pointer none, .slice none 0 0] 101))) := ext_trans HA.out (ext_alloc (Below.refl _ _))
    have hBw0 : w.heap.size ≤ w0.heap.size := HA.out.size
    clear HX0 HA
    as_aux_lemma =>
      go_upto_region 3 with (fail)
      generalize w0.alloc (.cells #[.pointer none, .slice none 0 0] 101) = w1 at HX HBD HB1 ⊢
      obtain ⟨B, hB⟩ : ∃ B, B = w0.heap.size := ⟨_, rfl⟩
      rw [← hB] at HBD hXB0 hSB0 hBw0
      simp only [← hB]
      clear hB
      have hXB := hXB0
      have hSB := hSB0
      have HTB := Lib.hid (tab_below hT HB1.out hS)
      clear hXB0 hSB0
      have HBq : Hid (Below B w1 w1.drew) := (Below.refl _ _).drew
      have HBL : Hid (Lib.IsBuilder 101 5 B B [] w1.drew) := bld_keep HBD.out (ext_drew (Below.refl _ _))
      refine region_seqI (S := fun W => Below B w1 W) [(true, 0), (true, 1), (true, 2), (true, 6), (true, 7), (true, 8), (true, 12), (true, 13), (true, 14), (true, 18), (true, 19), (true, 20), (false, 3), (true, 4), (true, 5), (false, 9), (true, 10), (true, 11), (false, 15), (true, 16), (true, 17), (false, 21), (true, 22), (true, 23), (false, 24)] (by kernel_rfl) (by kernel_rfl) rfl (by kernel_rfl) HBq.out ?_
      generalize w1.drew = wd at HBq HBL ⊢
      simp only [seqOps, List.getD_cons_zero, List.getD_cons_succ]
      refine seqI_take (v := .func (.func 68) #[] #[]) rfl (fun W hW => by go_simp) (fun _ _ _ h => h) ?_
      simp only [Act.put, List.setIfInBounds_toArray, List.set_cons_zero, List.set_cons_succ]
      refine seqI_take (v := .pointer (some ⟨X, 0, none⟩)) rfl (fun W hW => by go_simp) (fun _ _ _ h => h) ?_
      simp only [Act.put, List.setIfInBounds_toArray, List.set_cons_zero, List.set_cons_succ]
      refine seqI_take (v := .int .i64 df) rfl (fun W hW => by have m0 := (HX.out.same (hW.block X hXB)).cell 0 rfl; go_simp) (fun _ _ _ h => h) ?_
      simp only [Act.put, List.setIfInBounds_toArray, List.set_cons_zero, List.set_cons_succ]
      refine seqI_take (v := .func (.func 68) #[] #[]) rfl (fun W hW => by go_simp) (fun _ _ _ h => h) ?_
      simp only [Act.put, List.setIfInBounds_toArray, List.set_cons_zero, List.set_cons_succ]
      refine seqI_take (v := .pointer (some ⟨X, 1, none⟩)) rfl (fun W hW => by go_simp) (fun _ _ _ h => h) ?_
      simp only [Act.put, List.setIfInBounds_toArray, List.set_cons_zero, List.set_cons_succ]
      refine seqI_take (v := .int .i64 ds) rfl (fun W hW => by have m0 := (HX.out.same (hW.block X hXB)).cell 1 rfl; go_simp) (fun _ _ _ h => h) ?_
      simp only [Act.put, List.setIfInBounds_toArray, List.set_cons_zero, List.set_cons_succ]
      refine seqI_take (v := .func (.func 68) #[] #[]) rfl (fun W hW => by go_simp) (fun _ _ _ h => h) ?_
      simp only [Act.put, List.setIfInBounds_toArray, List.set_cons_zero, List.set_cons_succ]
      refine seqI_take (v := .pointer (some ⟨X, 2, none⟩)) rfl (fun W hW => by go_simp) (fun _ _ _ h => h) ?_
      simp only [Act.put, List.setIfInBounds_toArray, List.set_cons_zero, List.set_cons_succ]
      refine seqI_take (v := .int .i64 dl) rfl (fun W hW => by have m0 := (HX.out.same (hW.block X hXB)).cell 2 rfl; go_simp) (fun _ _ _ h => h) ?_
      simp only [Act.put, List.setIfInBounds_toArray, List.set_cons_zero, List.set_cons_succ]
      refine seqI_take (v := .func (.func 68) #[] #[]) rfl (fun W hW => by go_simp) (fun _ _ _ h => h) ?_
      simp only [Act.put, List.setIfInBounds_toArray, List.set_cons_zero, List.set_cons_succ]
      refine seqI_take (v := .pointer (some ⟨X, 3, none⟩)) rfl (fun W hW => by go_simp) (fun _ _ _ h => h) ?_
      simp only [Act.put, List.setIfInBounds_toArray, List.set_cons_zero, List.set_cons_succ]
      refine seqI_take (v := .int .i64 dp) rfl (fun W hW => by have m0 := (HX.out.same (hW.block X hXB)).cell 3 rfl; go_simp) (fun _ _ _ h => h) ?_
      simp only [Act.put, List.setIfInBounds_toArray, List.set_cons_zero, List.set_cons_succ]
      refine seqI_call 68 #[.int .i64 df] rfl (by go_simp) (itoa_any df (by omega) (by omega) S _ (tab_below HTB.out HBq.out hSB)) ?_
      rintro e wq0 ⟨rfl, hb⟩
      have HBp := Lib.hid (HBq.out.trans (hb.mono (Nat.le_of_lt (bld_lt HBL.out))))
      have HBM := Lib.hid (bld_keep HBL.out hb)
      clear HBq HBL hb
      have HBq := HBp
      have HBL := HBM
      clear HBp HBM
      refine ⟨_, rfl, HBq.out, ?_⟩
      simp only [Act.put, List.setIfInBounds_toArray, List.set_cons_zero, List.set_cons_succ]
      generalize Lib.itoa df = q0 at hq0 HTX ⊢
      obtain ⟨s0, hs0⟩ : ∃ l : List UInt8, l = [100, 101, 99, 107, 32] ++ q0 := ⟨_, rfl⟩
      have hl0 : s0.length ≤ 26 := by rw [hs0]; simp only [List.length_append, List.length_cons, List.length_nil]; omega
      refine seqI_take (v := .string ⟨s0.toArray⟩) rfl (fun W hW => by rw [hs0]; exact add_str _ _ _ _ _ ([100, 101, 99, 107, 32]) q0 rfl rfl rfl (by first | omega | (simp only [List.length_append, List.length_cons, List.length_nil]; omega))) (fun _ _ _ h => h) ?_
      simp only [Act.put, List.setIfInBounds_toArray, List.set_cons_zero, List.set_cons_succ]
      have HS0 := Lib.hid hs0
      clear hs0
      obtain ⟨s1, hs1⟩ : ∃ l : List UInt8, l = s0 ++ [32] := ⟨_, rfl⟩
      have hl1 : s1.length ≤ 27 := by rw [hs1]; simp only [List.length_append, List.length_cons, List.length_nil]; omega
      refine seqI_take (v := .string ⟨s1.toArray⟩) rfl (fun W hW => by rw [hs1]; exact add_str _ _ _ _ _ (s0) [32] rfl rfl rfl (by first | omega | (simp only [List.length_append, List.length_cons, List.length_nil]; omega))) (fun _ _ _ h => h) ?_
      simp only [Act.put, List.setIfInBounds_toArray, List.set_cons_zero, List.set_cons_succ]
      have HS1 := Lib.hid hs1
      clear hs1
      refine seqI_call 68 #[.int .i64 ds] rfl (by go_simp) (itoa_any ds (by omega) (by omega) S _ (tab_below HTB.out HBq.out hSB)) ?_
      rintro e wq1 ⟨rfl, hb⟩
      have HBp := Lib.hid (HBq.out.trans (hb.mono (Nat.le_of_lt (bld_lt HBL.out))))
      have HBM := Lib.hid (bld_keep HBL.out hb)
      clear HBq HBL hb
      have HBq := HBp
      have HBL := HBM
      clear HBp HBM
      refine ⟨_, rfl, HBq.out, ?_⟩
      simp only [Act.put, List.setIfInBounds_toArray, List.set_cons_zero, List.set_cons_succ]
      generalize Lib.itoa ds = q1 at hq1 HTX ⊢
      obtain ⟨s2, hs2⟩ : ∃ l : List UInt8, l = s1 ++ q1 := ⟨_, rfl⟩
      have hl2 : s2.length ≤ 48 := by rw [hs2]; simp only [List.length_append, List.length_cons, List.length_nil]; omega
      refine seqI_take (v := .string ⟨s2.toArray⟩) rfl (fun W hW => by rw [hs2]; exact add_str _ _ _ _ _ (s1) q1 rfl rfl rfl (by first | omega | (simp only [List.length_append, List.length_cons, List.length_nil]; omega))) (fun _ _ _ h => h) ?_
      simp only [Act.put, List.setIfInBounds_toArray, List.set_cons_zero, List.set_cons_succ]
      have HS2 := Lib.hid hs2
      clear hs2
      obtain ⟨s3, hs3⟩ : ∃ l : List UInt8, l = s2 ++ [32] := ⟨_, rfl⟩
      have hl3 : s3.length ≤ 49 := by rw [hs3]; simp only [List.length_append, List.length_cons, List.length_nil]; omega
      refine seqI_take (v := .string ⟨s3.toArray⟩) rfl (fun W hW => by rw [hs3]; exact add_str _ _ _ _ _ (s2) [32] rfl rfl rfl (by first | omega | (simp only [List.length_append, List.length_cons, List.length_nil]; omega))) (fun _ _ _ h => h) ?_
      simp only [Act.put, List.setIfInBounds_toArray, List.set_cons_zero, List.set_cons_succ]
      have HS3 := Lib.hid hs3
      clear hs3
      refine seqI_call 68 #[.int .i64 dl] rfl (by go_simp) (itoa_any dl (by omega) (by omega) S _ (tab_below HTB.out HBq.out hSB)) ?_
      rintro e wq2 ⟨rfl, hb⟩
      have HBp := Lib.hid (HBq.out.trans (hb.mono (Nat.le_of_lt (bld_lt HBL.out))))
      have HBM := Lib.hid (bld_keep HBL.out hb)
      clear HBq HBL hb
      have HBq := HBp
      have HBL := HBM
      clear HBp HBM
      refine ⟨_, rfl, HBq.out, ?_⟩
      simp only [Act.put, List.setIfInBounds_toArray, List.set_cons_zero, List.set_cons_succ]
      generalize Lib.itoa dl = q2 at hq2 HTX ⊢
      obtain ⟨s4, hs4⟩ : ∃ l : List UInt8, l = s3 ++ q2 := ⟨_, rfl⟩
      have hl4 : s4.length ≤ 70 := by rw [hs4]; simp only [List.length_append, List.length_cons, List.length_nil]; omega
      refine seqI_take (v := .string ⟨s4.toArray⟩) rfl (fun W hW => by rw [hs4]; exact add_str _ _ _ _ _ (s3) q2 rfl rfl rfl (by first | omega | (simp only [List.length_append, List.length_cons, List.length_nil]; omega))) (fun _ _ _ h => h) ?_
      simp only [Act.put, List.setIfInBounds_toArray, List.set_cons_zero, List.set_cons_succ]
      have HS4 := Lib.hid hs4
      clear hs4
      obtain ⟨s5, hs5⟩ : ∃ l : List UInt8, l = s4 ++ [32] := ⟨_, rfl⟩
      have hl5 : s5.length ≤ 71 := by rw [hs5]; simp only [List.length_append, List.length_cons, List.length_nil]; omega
      refine seqI_take (v := .string ⟨s5.toArray⟩) rfl (fun W hW => by rw [hs5]; exact add_str _ _ _ _ _ (s4) [32] rfl rfl rfl (by first | omega | (simp only [List.length_append, List.length_cons, List.length_nil]; omega))) (fun _ _ _ h => h) ?_
      simp only [Act.put, List.setIfInBounds_toArray, List.set_cons_zero, List.set_cons_succ]
      have HS5 := Lib.hid hs5
      clear hs5
      refine seqI_call 68 #[.int .i64 dp] rfl (by go_simp) (itoa_any dp (by omega) (by omega) S _ (tab_below HTB.out HBq.out hSB)) ?_
      rintro e wq3 ⟨rfl, hb⟩
      have HBp := Lib.hid (HBq.out.trans (hb.mono (Nat.le_of_lt (bld_lt HBL.out))))
      have HBM := Lib.hid (bld_keep HBL.out hb)
      clear HBq HBL hb
      have HBq := HBp
      have HBL := HBM
      clear HBp HBM
      refine ⟨_, rfl, HBq.out, ?_⟩
      simp only [Act.put, List.setIfInBounds_toArray, List.set_cons_zero, List.set_cons_succ]
      generalize Lib.itoa dp = q3 at hq3 HTX ⊢
      obtain ⟨s6, hs6⟩ : ∃ l : List UInt8, l = s5 ++ q3 := ⟨_, rfl⟩
      have hl6 : s6.length ≤ 92 := by rw [hs6]; simp only [List.length_append, List.length_cons, List.length_nil]; omega
      refine seqI_take (v := .string ⟨s6.toArray⟩) rfl (fun W hW => by rw [hs6]; exact add_str _ _ _ _ _ (s5) q3 rfl rfl rfl (by first | omega | (simp only [List.length_append, List.length_cons, List.length_nil]; omega))) (fun _ _ _ h => h) ?_
      simp only [Act.put, List.setIfInBounds_toArray, List.set_cons_zero, List.set_cons_succ]
      have HS6 := Lib.hid hs6
      clear hs6
      obtain ⟨s7, hs7⟩ : ∃ l : List UInt8, l = s6 ++ [10] := ⟨_, rfl⟩
      have hl7 : s7.length ≤ 93 := by rw [hs7]; simp only [List.length_append, List.length_cons, List.length_nil]; omega
      refine seqI_take (v := .string ⟨s7.toArray⟩) rfl (fun W hW => by rw [hs7]; exact add_str _ _ _ _ _ (s6) [10] rfl rfl rfl (by first | omega | (simp only [List.length_append, List.length_cons, List.length_nil]; omega))) (fun _ _ _ h => h) ?_
      simp only [Act.put, List.setIfInBounds_toArray, List.set_cons_zero, List.set_cons_succ]
      have HS7 := Lib.hid hs7
      clear hs7
      have htx : s7 = HT := by rw [HS7.out, HS6.out, HS5.out, HS4.out, HS3.out, HS2.out, HS1.out, HS0.out]; exact HTX.out
      rw [htx]
      clear htx HTX HS0 HS1 HS2 HS3 HS4 HS5 HS6 HS7
      refine seqI_call 69 #[.pointer (some ⟨B, 0, none⟩), .string ⟨HT.toArray⟩] rfl (by go_simp) (bld_writeL B B [] HT _ HBL.out (by rw [List.length_nil]; omega) (Nat.le_of_lt (bld_lt HBL.out))) ?_
      rintro e w2 ⟨rfl, hb2, hbb⟩
      have HBp := Lib.hid (HBq.out.trans hbb)
      have HBM : Hid (Lib.IsBuilder 101 5 B B (Lib.byteCells HT) w2) := Or.inr hb2
      clear HBq HBL hb2 hbb
      have HBq := HBp
      have HBL := HBM
      clear HBp HBM
      refine ⟨_, rfl, HBq.out, ?_⟩
      simp only [Act.put, List.setIfInBounds_toArray, List.set_cons_zero, List.set_cons_succ]
      refine seqI_nil ?_
      clear hq0 hq1 hq2 hq3 hl0 hl1 hl2 hl3 hl4 hl5 hl6 hl7
      have x4 := (HX.out.same (HBq.out.block X hXB)).cell 4 rfl
      have HBZ : Hid (Lib.IsBuilder 101 5 B B (Lib.byteCells (HT ++ ratesT rates 0)) w2) := by
        show Lib.IsBuilder _ _ _ _ _ _
        rw [show ratesT rates 0 = [] from rfl, List.append_nil]
        exact HBL.out
      clear HBL
      as_aux_lemma =>
        go_wp2_with fail
        clear x4
        go_loopw [36] (fun it wr => ∃ i : Nat, i ≤ rates.length ∧ it = .int .i64 i ∧ Hid (Lib.IsBuilder 101 5 B B (Lib.byteCells (HT ++ ratesT rates i)) wr) ∧ Hid (Below B w1 wr)) (fun it _ => rates.length - (intOf it).toNat)
        case atStart => exact ⟨0, Nat.zero_le _, rfl, HBZ.out, HBq.out⟩
        case round =>
          clear HBZ HBq
          obtain ⟨i, hin, rfl, HL, HB⟩ := hrel
          have hrl := HRL.out i hin
          by_cases hlt : i < rates.length
          case neg =>
            have hii : i = rates.length := by omega
            have hnn : ¬ (i : Int) < (rates.length : Int) := by omega
            have HDX : Hid (HT ++ ratesT rates i = DT) := by show _ = _; rw [hii, HDT.out]
            clear HDT HRL hii hlt
            rw [HDX.out] at HL
            as_aux_lemma =>
              go_wp2_with fail
              refine (bld_string B B DT wr HL.out (Nat.le_of_lt (bld_lt HL.out))).mono ?_
              rintro e w9 ⟨rfl, hb9⟩
              have HB9 := Lib.hid (HB1.out.trans ((HB.out.trans hb9).mono hBw0))
              clear hb9 HB HL
              as_aux_lemma =>
                go_wp2_with fail
                go_ret
                exact ⟨rfl, HB9.out⟩
          have hlti : (i : Int) < (rates.length : Int) := by omega
          have HRW := Lib.hid (HR.out.below (HB1.out.trans (HB.out.mono hBw0)))
          obtain ⟨b, off, rfl, hb, hc⟩ := HRW.out.at (by omega)
          obtain ⟨k0, k1, k2⟩ := hc i hlt
          obtain ⟨hp1, hp2⟩ := rate_in HRW.out hlt
          have HST : Hid (ratesT rates (i + 1) = ratesT rates i ++ rateT (rates.getD i noRate)) := ratesT_step rates i hlt
          have hq := itoa_len (rates.getD i noRate).price hp2.1 hp2.2
          clear hc HRW
          generalize rates.getD i noRate = r at k0 k1 k2 hp1 hp2 HST hq
          obtain ⟨rp, rq, rl⟩ := r
          simp only at k0 k1 k2 hp1 hp2 hq
          have hA : Below wr.heap.size wr (wr.alloc (.cells #[.string ⟨rp.toArray⟩, .int .i64 rq, .bool rl] 51)) := ext_alloc (Below.refl _ _)
          have HP : Hid (Blk (wr.alloc (.cells #[.string ⟨rp.toArray⟩, .int .i64 rq, .bool rl] 51)) wr.heap.size [.string ⟨rp.toArray⟩, .int .i64 rq, .bool rl] 51) := Blk.new wr _ _
          have HL3 := Lib.hid (bld_keep HL.out hA)
          have HB3 := Lib.hid (HB.out.trans (hA.mono (Nat.le_of_lt (bld_lt HL.out))))
          clear hA HL HB
          as_aux_lemma =>
            go_upto_region 7 with (fail)
            generalize wr.alloc (.cells #[.string ⟨rp.toArray⟩, .int .i64 rq, .bool rl] 51) = w3 at HP HL3 HB3 ⊢
            generalize wr.heap.size = P at HP ⊢
            clear k0 k1 k2
            have HTB3 := Lib.hid (tab_below HTB.out HB3.out hSB)
            have p1 := HP.out.cell 1 rfl
            as_aux_lemma =>
              go_wp2_with fail
              refine (itoa_any rq (by omega) (by omega) S _ HTB3.out).mono ?_
              rintro e w4 ⟨rfl, hb4⟩
              have HP4 := Lib.hid (HP.out.below hb4)
              have HL4 := Lib.hid (bld_keep HL3.out hb4)
              have HB4 := Lib.hid (HB3.out.trans (hb4.mono (Nat.le_of_lt (bld_lt HL3.out))))
              clear hb4 HP HL3 HB3 HTB3 p1
              obtain ⟨q, hQ⟩ : ∃ q, Lib.itoa rq = q := ⟨_, rfl⟩
              rw [hQ] at hq
              rw [hQ]
              have HQQ := Lib.hid hQ
              clear hQ
              have p2 := HP4.out.cell 2 rfl
              cases rl with
              | true =>
                as_aux_lemma =>
                  go_upto_region 10 with (fail)
                  obtain ⟨qq, hqq⟩ : ∃ qq : List UInt8, qq = [99, 108, 111, 115, 101, 100] := ⟨_, rfl⟩
                  have HQ9 := Lib.hid hqq
                  have hql : qq.length ≤ 21 := by rw [hqq]; decide
                  rw [show (#[99, 108, 111, 115, 101, 100] : Array UInt8) = qq.toArray by rw [hqq]]
                  clear hqq p2 HQQ hq
                  have p0 := HP4.out.cell 0 rfl
                  have hA5 : Below w4.heap.size w4 (w4.alloc (.cells #[.string ⟨rp.toArray⟩, .string ⟨#[45]⟩] 9)) := ext_alloc (Below.refl _ _)
                  have HL5 := Lib.hid (bld_keep HL4.out hA5)
                  have HB5 := Lib.hid (HB4.out.trans (hA5.mono (Nat.le_of_lt (bld_lt HL4.out))))
                  have HOR := Lib.hid (orDash_any rp [45] (by decide) w4.heap.size (w4.alloc (.cells #[.string ⟨rp.toArray⟩, .string ⟨#[45]⟩] 9)) (by simp) (by go_simp) (by go_simp))
                  as_aux_lemma =>
                    go_wp2_with (first | (refine wpList_val rfl (bl_dkl0 _ (fun _ => rfl) _ _ 47 ⟨rp.toArray⟩ ⟨#[45]⟩ rfl rfl) ?_))
                    generalize w4.alloc (.cells #[.string ⟨rp.toArray⟩, .string ⟨#[45]⟩] 9) = w5 at HL5 HB5 HOR ⊢
                    generalize w4.heap.size = P5 at HOR ⊢
                    clear hA5 HL4 HB4 HP4 p0
                    refine HOR.out.mono ?_
                    rintro e w6 ⟨rfl, hw6⟩
                    subst hw6
                    clear HOR
                    obtain ⟨pp, hpp⟩ : ∃ pp : List UInt8, pp = (if rp = [] then [45] else rp) := ⟨_, rfl⟩
                    have hpl : pp.length ≤ 100000 := by
                      rw [hpp]
                      split
                      · decide
                      · exact hp1
                    rw [← hpp]
                    obtain ⟨LT, hLT⟩ : ∃ l : List UInt8, l = 114 :: 97 :: 116 :: 101 :: 32 :: (pp ++ 32 :: (qq ++ [10])) := ⟨_, rfl⟩
                    have HLN : Hid (ratesT rates (i + 1) = ratesT rates i ++ LT) := by
                      show _ = _
                      rw [HST.out, hLT]
                      unfold rateT preT priceT
                      rw [hpp, HQ9.out]; simp
                    have hll : LT.length ≤ 100100 := by rw [hLT]; simp only [List.length_append, List.length_cons, List.length_nil]; omega
                    have HLT := Lib.hid hLT
                    clear HST hLT hpp
                    as_aux_lemma =>
                      go_wp2_with (first | (refine wpList_val rfl (add_str _ _ _ (.const (.string ⟨#[114, 97, 116, 101, 32]⟩)) (.tmp 49) ([114, 97, 116, 101, 32]) (pp) rfl rfl rfl (by simp only [List.length_append, List.length_cons, List.length_nil]; omega)) ?_) | (refine wpList_val rfl (add_str _ _ _ (.tmp 50) (.const (.string ⟨#[32]⟩)) ([114, 97, 116, 101, 32] ++ pp) ([32]) rfl rfl rfl (by simp only [List.length_append, List.length_cons, List.length_nil]; omega)) ?_) | (refine wpList_val rfl (add_str _ _ _ (.tmp 51) (.tmp 52) ([114, 97, 116, 101, 32] ++ pp ++ [32]) (qq) rfl rfl rfl (by simp only [List.length_append, List.length_cons, List.length_nil]; omega)) ?_) | (refine wpList_val rfl (add_str _ _ _ (.tmp 53) (.const (.string ⟨#[10]⟩)) ([114, 97, 116, 101, 32] ++ pp ++ [32] ++ qq) ([10]) rfl rfl rfl (by simp only [List.length_append, List.length_cons, List.length_nil]; omega)) ?_))
                      rw [← HLT.out]
                      refine (bld_writeL B B (Lib.byteCells (HT ++ ratesT rates i)) LT _ HL5.out (by rw [cells_len, List.length_append]; omega) (Nat.le_of_lt (bld_lt HL5.out))).mono ?_
                      rintro e w8 ⟨rfl, hb2, hbb⟩
                      have HL8 : Hid (Lib.IsBuilder 101 5 B B (Lib.byteCells (HT ++ ratesT rates (i + 1))) w8) := by
                        show Lib.IsBuilder _ _ _ _ _ _
                        rw [HLN.out, ← List.append_assoc, ← cells_app]
                        exact Or.inr hb2
                      have HB8 := Lib.hid (HB5.out.trans hbb)
                      clear hb2 hbb HLN HL5 HB5 HLT
                      as_aux_lemma =>
                        go_wp2_with fail
                        go_roundw
                        case rel => exact ⟨i + 1, by omega, by go_num, HL8.out, HB8.out⟩
                        case measure => simp [intOf]; omega
              | false =>
                as_aux_lemma =>
                  go_upto_region 10 with (fail)
                  have HQ9 := HQQ
                  have hql : q.length ≤ 21 := hq
                  clear p2 HQQ
                  have p0 := HP4.out.cell 0 rfl
                  have hA5 : Below w4.heap.size w4 (w4.alloc (.cells #[.string ⟨rp.toArray⟩, .string ⟨#[45]⟩] 9)) := ext_alloc (Below.refl _ _)
                  have HL5 := Lib.hid (bld_keep HL4.out hA5)
                  have HB5 := Lib.hid (HB4.out.trans (hA5.mono (Nat.le_of_lt (bld_lt HL4.out))))
                  have HOR := Lib.hid (orDash_any rp [45] (by decide) w4.heap.size (w4.alloc (.cells #[.string ⟨rp.toArray⟩, .string ⟨#[45]⟩] 9)) (by simp) (by go_simp) (by go_simp))
                  as_aux_lemma =>
                    go_wp2_with (first | (refine wpList_val rfl (bl_dkl0 _ (fun _ => rfl) _ _ 47 ⟨rp.toArray⟩ ⟨#[45]⟩ rfl rfl) ?_))
                    generalize w4.alloc (.cells #[.string ⟨rp.toArray⟩, .string ⟨#[45]⟩] 9) = w5 at HL5 HB5 HOR ⊢
                    generalize w4.heap.size = P5 at HOR ⊢
                    clear hA5 HL4 HB4 HP4 p0
                    refine HOR.out.mono ?_
                    rintro e w6 ⟨rfl, hw6⟩
                    subst hw6
                    clear HOR
                    obtain ⟨pp, hpp⟩ : ∃ pp : List UInt8, pp = (if rp = [] then [45] else rp) := ⟨_, rfl⟩
                    have hpl : pp.length ≤ 100000 := by
                      rw [hpp]
                      split
                      · decide
                      · exact hp1
                    rw [← hpp]
                    obtain ⟨LT, hLT⟩ : ∃ l : List UInt8, l = 114 :: 97 :: 116 :: 101 :: 32 :: (pp ++ 32 :: (q ++ [10])) := ⟨_, rfl⟩
                    have HLN : Hid (ratesT rates (i + 1) = ratesT rates i ++ LT) := by
                      show _ = _
                      rw [HST.out, hLT]
                      unfold rateT preT priceT
                      rw [hpp, ← HQ9.out]; simp
                    have hll : LT.length ≤ 100100 := by rw [hLT]; simp only [List.length_append, List.length_cons, List.length_nil]; omega
                    have HLT := Lib.hid hLT
                    clear HST hLT hpp
                    as_aux_lemma =>
                      go_wp2_with (first | (refine wpList_val rfl (add_str _ _ _ (.const (.string ⟨#[114, 97, 116, 101, 32]⟩)) (.tmp 49) ([114, 97, 116, 101, 32]) (pp) rfl rfl rfl (by simp only [List.length_append, List.length_cons, List.length_nil]; omega)) ?_) | (refine wpList_val rfl (add_str _ _ _ (.tmp 50) (.const (.string ⟨#[32]⟩)) ([114, 97, 116, 101, 32] ++ pp) ([32]) rfl rfl rfl (by simp only [List.length_append, List.length_cons, List.length_nil]; omega)) ?_) | (refine wpList_val rfl (add_str _ _ _ (.tmp 51) (.tmp 52) ([114, 97, 116, 101, 32] ++ pp ++ [32]) (q) rfl rfl rfl (by simp only [List.length_append, List.length_cons, List.length_nil]; omega)) ?_) | (refine wpList_val rfl (add_str _ _ _ (.tmp 53) (.const (.string ⟨#[10]⟩)) ([114, 97, 116, 101, 32] ++ pp ++ [32] ++ q) ([10]) rfl rfl rfl (by simp only [List.length_append, List.length_cons, List.length_nil]; omega)) ?_))
                      rw [← HLT.out]
                      refine (bld_writeL B B (Lib.byteCells (HT ++ ratesT rates i)) LT _ HL5.out (by rw [cells_len, List.length_append]; omega) (Nat.le_of_lt (bld_lt HL5.out))).mono ?_
                      rintro e w8 ⟨rfl, hb2, hbb⟩
                      have HL8 : Hid (Lib.IsBuilder 101 5 B B (Lib.byteCells (HT ++ ratesT rates (i + 1))) w8) := by
                        show Lib.IsBuilder _ _ _ _ _ _
                        rw [HLN.out, ← List.append_assoc, ← cells_app]
                        exact Or.inr hb2
                      have HB8 := Lib.hid (HB5.out.trans hbb)
                      clear hb2 hbb HLN HL5 HB5 HLT
                      as_aux_lemma =>
                        go_wp2_with fail
                        go_roundw
                        case rel => exact ⟨i + 1, by omega, by go_num, HL8.out, HB8.out⟩
                        case measure => simp [intOf]; omega
end Go.Proofs.YtacekbbndamkmaaGreatDoor

set_option linter.unusedVariables false
set_option linter.unusedSimpArgs false
namespace Go.Proofs.YtacekbbndamkmaaGreatDoor
open Go.RowKit

theorem digits_len {s : List UInt8} {lo hi : Int} (h : digitsB s lo hi = true) : (s.length : Int) ≤ hi := by
  unfold digitsB at h
  simp only [Bool.and_eq_true, decide_eq_true_eq] at h
  omega
theorem trim_drop {s p : List UInt8} (h : Lib.hasPrefix s p = true) : Lib.trimPrefix s p = s.drop p.length := by unfold Lib.trimPrefix; rw [if_pos h]

def strSz : Value → Nat
  | .string b => b.size
  | _ => 0
theorem strSz_l (l : List UInt8) : strSz (.string ⟨l.toArray⟩) = l.length := rfl
theorem ext_take (l : List UInt8) (k : Nat) : (⟨l.toArray⟩ : ByteArray).extract 0 k = ⟨(l.take k).toArray⟩ := by
  rw [Lib.extract_eq]
  simp

end Go.Proofs.YtacekbbndamkmaaGreatDoor

set_option linter.unusedVariables false
set_option linter.unusedSimpArgs false
namespace Go.Proofs.YtacekbbndamkmaaGreatDoor
open Go.RowKit

theorem enc_size (r : Int) : (Utf8.encode r).size ≤ 4 := by
  unfold Utf8.encode
  simp only
  repeat' split
  all_goals (show Array.size _ ≤ 4; simp)
theorem bytes_back (b : ByteArray) : b = (⟨b.data.toList.toArray⟩ : ByteArray) := by simp
theorem enc_bound (a b e : ByteArray) (n : Nat) (h : a.size + e.size + b.size ≤ n) : ((a ++ e) ++ b).data.toList.length ≤ n := by
  show _ ≤ n
  simp only [ByteArray.data_append, Array.toList_append, List.length_append]
  exact h

set_option maxRecDepth 100000 in
set_option maxHeartbeats 4000000 in
theorem changed_any (S k : Nat) (w : World) (t wi : List UInt8) (h : StreamOk w S k) (hk : k ≤ 10000000) (ht : t.length ≤ 100000) (hw : wi.length ≤ 100000) :
    Calls Tryz.prog 73 #[.pointer (some ⟨S, 0, none⟩), .string ⟨t.toArray⟩, .string ⟨wi.toArray⟩] w (SomePost S (k + 3) (fun s => s.length ≤ t.length + wi.length + 4) w) := by
  have HS := Lib.hid h
  clear h
  cases t with
  | nil =>
    go_enter Tryz.func73, Tryz.ntmps73
    go_wp2_with fail
    go_ret
    exact ⟨wi, rfl, by show wi.length ≤ 0 + wi.length + 4; omega, HS.out.mono (by omega), Keeps.refl _ _⟩
  | cons x m =>
  cases wi with
  | nil =>
    go_enter Tryz.func73, Tryz.ntmps73
    go_wp2_with fail
    go_ret
    exact ⟨[], rfl, by simp, HS.out.mono (by omega), Keeps.refl _ _⟩
  | cons y n =>
    simp only [List.length_cons] at ht hw
    go_enter Tryz.func73, Tryz.ntmps73
    go_wp2_with fail
    refine (next_any S k ((m.length : Int) + 1) _ HS.out (by omega) (by omega) (by omega)).mono ?_
    rintro e w1 ⟨r, rfl, r0, r1, hst1, hk1⟩
    have HS1 := Lib.hid hst1
    have HK1 := Lib.hid hk1
    obtain ⟨i, rfl⟩ := Int.eq_ofNat_of_zero_le r0
    have hi : i < m.length + 1 := by omega
    clear hst1 hk1 r0 r1
    as_aux_lemma =>
      go_wp2_with fail
      refine (next_any S (k + 1) ((n.length : Int) + 1) _ HS1.out (by omega) (by omega) (by omega)).mono ?_
      rintro e w2 ⟨r, rfl, r0, r1, hst2, hk2⟩
      have HS2 := Lib.hid hst2
      have HK2 := Lib.hid (HK1.out.trans hk2)
      obtain ⟨j, rfl⟩ := Int.eq_ofNat_of_zero_le r0
      have hj : j < n.length + 1 := by omega
      clear hst2 hk2 r0 r1 HS1 HK1
      as_aux_lemma =>
        go_wp2_with fail
        refine (next_any S (k + 2) 3 _ HS2.out (by omega) (by omega) (by omega)).mono ?_
        rintro e w3 ⟨r, rfl, r0, r1, hst3, hk3⟩
        have HS3 := Lib.hid hst3
        have HK3 := Lib.hid (HK2.out.trans hk3)
        have hr : r = 0 ∨ r = 1 ∨ r = 2 := by omega
        clear hst3 hk3 r0 r1 HS2 HK2
        have hq256 : ((⟨(y :: n).toArray⟩ : ByteArray)[j]'(by show j < n.length + 1; omega)).toNat < 256 := UInt8.toNat_lt _
        generalize ((⟨(y :: n).toArray⟩ : ByteArray)[j]'(by show j < n.length + 1; omega)).toNat = q at hq256
        have hwq : IntKind.i32.wrap (q : Int) = (q : Int) := IntWalk.i32_in _ (by omega)
        have hes := enc_size (q : Int)
        obtain ⟨el, hel⟩ : ∃ el : List UInt8, Utf8.encode (q : Int) = ⟨el.toArray⟩ := ⟨_, bytes_back _⟩
        rw [hel] at hes
        have hell : el.length ≤ 4 := hes
        clear hes
        have hwi : IntKind.i64.wrap ((i : Int) + 1) = (i : Int) + 1 := IntWalk.i64_in _ (by omega)
        have hwn : ((i : Int) + 1).toNat = i + 1 := by omega
        have hw0 : (0 : Int) ≤ (i : Int) + 1 := by omega
        have hiI : (i : Int) ≤ (m.length : Int) + 1 := by omega
        have hiJ : (i : Int) + 1 ≤ (m.length : Int) + 1 := by omega
        have HEX : Hid (∀ k, (⟨(x :: m).toArray⟩ : ByteArray).extract k (m.length + 1) = ⟨((x :: m).drop k).toArray⟩) := fun k => extract_drop (x :: m) k
        rcases hr with rfl | rfl | rfl
        · skip
          as_aux_lemma =>
            go_wp2_with fail
            go_quiet (fail)
            rw [ext_take, HEX.out, cat_str, cat_str]
            go_wp2_with fail
            go_ret
            exact ⟨_, rfl, by simp; omega, HS3.out.below (by (try show Below _ _ _); repeat (with_reducible first | exact Below.refl _ _ | assumption | exact Hid.out (by assumption) | refine ext_alloc ?_ | refine ext_drewN ?_ | refine ext_drew ?_ | refine ext_setCell ?_ (Nat.le_refl _) | refine ext_setCell ?_ (Nat.le_succ _) | refine ext_trans ?_ (by assumption) | (refine ext_setCell ?_ (by simp)) | (refine ext_setCell ?_ (by simp at *; omega)))), HK3.out.trans (Keeps.of_below (by (try show Below _ _ _); repeat (with_reducible first | exact Below.refl _ _ | assumption | exact Hid.out (by assumption) | refine ext_alloc ?_ | refine ext_drewN ?_ | refine ext_drew ?_ | refine ext_setCell ?_ (Nat.le_refl _) | refine ext_setCell ?_ (Nat.le_succ _) | refine ext_trans ?_ (by assumption) | (refine ext_setCell ?_ (by simp)) | (refine ext_setCell ?_ (by simp at *; omega)))))⟩
        · skip
          as_aux_lemma =>
            go_wp2_with fail
            go_quiet (fail)
            rw [ext_take, HEX.out, cat_str, cat_str]
            go_wp2_with fail
            go_ret
            exact ⟨_, rfl, by simp; omega, HS3.out.below (by (try show Below _ _ _); repeat (with_reducible first | exact Below.refl _ _ | assumption | exact Hid.out (by assumption) | refine ext_alloc ?_ | refine ext_drewN ?_ | refine ext_drew ?_ | refine ext_setCell ?_ (Nat.le_refl _) | refine ext_setCell ?_ (Nat.le_succ _) | refine ext_trans ?_ (by assumption) | (refine ext_setCell ?_ (by simp)) | (refine ext_setCell ?_ (by simp at *; omega)))), HK3.out.trans (Keeps.of_below (by (try show Below _ _ _); repeat (with_reducible first | exact Below.refl _ _ | assumption | exact Hid.out (by assumption) | refine ext_alloc ?_ | refine ext_drewN ?_ | refine ext_drew ?_ | refine ext_setCell ?_ (Nat.le_refl _) | refine ext_setCell ?_ (Nat.le_succ _) | refine ext_trans ?_ (by assumption) | (refine ext_setCell ?_ (by simp)) | (refine ext_setCell ?_ (by simp at *; omega)))))⟩
        · skip
          as_aux_lemma =>
            go_wp2_with fail
            go_quiet (fail)
            rw [ext_take, HEX.out, cat_str]
            go_wp2_with fail
            go_ret
            exact ⟨_, rfl, by simp; omega, HS3.out.below (by (try show Below _ _ _); repeat (with_reducible first | exact Below.refl _ _ | assumption | exact Hid.out (by assumption) | refine ext_alloc ?_ | refine ext_drewN ?_ | refine ext_drew ?_ | refine ext_setCell ?_ (Nat.le_refl _) | refine ext_setCell ?_ (Nat.le_succ _) | refine ext_trans ?_ (by assumption) | (refine ext_setCell ?_ (by simp)) | (refine ext_setCell ?_ (by simp at *; omega)))), HK3.out.trans (Keeps.of_below (by (try show Below _ _ _); repeat (with_reducible first | exact Below.refl _ _ | assumption | exact Hid.out (by assumption) | refine ext_alloc ?_ | refine ext_drewN ?_ | refine ext_drew ?_ | refine ext_setCell ?_ (Nat.le_refl _) | refine ext_setCell ?_ (Nat.le_succ _) | refine ext_trans ?_ (by assumption) | (refine ext_setCell ?_ (by simp)) | (refine ext_setCell ?_ (by simp at *; omega)))))⟩
end Go.Proofs.YtacekbbndamkmaaGreatDoor

set_option linter.unusedVariables false
set_option linter.unusedSimpArgs false
namespace Go.Proofs.YtacekbbndamkmaaGreatDoor
open Go.RowKit

theorem rates_small : ∀ (rs : List Rate), (∀ r ∈ rs, r.p.length ≤ 100 ∧ -2000000000000 ≤ r.price ∧ r.price ≤ 2000000000000) → ((rs.map rateT).flatten).length ≤ 200 * rs.length
  | [], _ => by simp
  | r :: rs, h => by
    have h1 := rates_small rs fun x hx => h x (List.mem_cons_of_mem _ hx)
    obtain ⟨h2, h3⟩ := h r List.mem_cons_self
    have h4 := itoa_len r.price h3.1 h3.2
    have h5 : (rateT r).length ≤ 200 := by
      have h6 : (preT r).length ≤ 100 := by
        unfold preT
        split
        · decide
        · exact h2
      have h7 : (priceT r).length ≤ 21 := by
        unfold priceT
        split
        · decide
        · exact h4
      unfold rateT
      simp only [List.length_append, List.length_cons, List.length_nil]
      omega
    rw [List.map_cons, List.flatten_cons, List.length_append, List.length_cons]
    omega
theorem deckT_small {base : Nat} {w : World} {d : Deck} (h : DeckOwn base w d) : (deckT d.from_ d.setup d.least d.step d.rates).length ≤ 20000 := by
  unfold deckT
  rw [List.length_append]
  have h1 := headT_len h.bounds.1 h.bounds.2.1 h.bounds.2.2.1 h.bounds.2.2.2
  have h2 := rates_small d.rates h.ok.2
  have h3 := h.ok.1
  omega
theorem bl_dks0 (e : Operand → Value) (he : ∀ v, e (.const v) = v) (o : Oper) (w : World)  (z0 : Int) (z1 : Int) (z2 : Int) (z3 : Int) (ho : o.op = .buildSlice 22 4 #[(0, .const (.int .i64 z0)), (1, .const (.int .i64 z1)), (2, .const (.int .i64 z2)), (3, .const (.int .i64 z3))])  :
   (execOp e o).run Tryz.prog w = .ok (.value (.slice (some ⟨w.heap.size, 0, none⟩) 4 4)) (w.alloc (.cells #[.int .i64 z0, .int .i64 z1, .int .i64 z2, .int .i64 z3] 3)) := by
  unfold execOp
  rw [ho]
  simp only [List.map_toArray, List.map_cons, List.map_nil, he]
  kernel_rfl
set_option maxRecDepth 100000 in
set_option maxHeartbeats 4000000 in
theorem deckString_any (S k : Nat) (w : World) (h : StreamOk w S k) (hk : k ≤ 900000) (hT : TabW S w) : Calls Tryz.prog 33 #[.pointer (some ⟨S, 0, none⟩)] w (SomePost S (k + 60) (fun s => s.length ≤ 21000) w) := by
  have HS0 := Lib.hid h
  have HT0 := Lib.hid hT
  have hSw := h.lt
  clear h hT
  go_enter Tryz.func33, Tryz.ntmps33
  as_aux_lemma =>
    go_wp2_with fail
    refine (next_any S k 50 _ HS0.out (by omega) (by omega) (by omega)).mono ?_
    rintro e w1 ⟨r, rfl, r0, r1, hst, hk'⟩
    have HS1 := Lib.hid hst
    have HK1 := Lib.hid hk'
    clear hst hk' HS0
    as_aux_lemma =>
      go_wp2_with fail
      refine (rightDeck_any S (k + 1) _ HS1.out (by omega) r ⟨by omega, by omega⟩).mono ?_
      rintro e w2 ⟨d, he, ho, hn, hst, hk'⟩
      have HK2 := Lib.hid (HK1.out.trans hk')
      have HS2 := Lib.hid hst
      have HDL := Lib.hid (deckLines_any w2 d ho.fine S (tab_keeps HT0.out HK2.out hSw) (Nat.le_trans (Nat.le_of_lt hSw) HK2.out.size))
      have hlen := deckT_small ho
      obtain ⟨gf, gs, gl, gp, ga, gn, gc, grs⟩ := d
      have he2 : e = .returned (.agg #[.int .i64 gf, .int .i64 gs, .int .i64 gl, .int .i64 gp, .slice ga gn gc]) := he
      subst he2
      have HDL2 : Hid (Calls Tryz.prog 32 #[.agg #[.int .i64 gf, .int .i64 gs, .int .i64 gl, .int .i64 gp, .slice ga gn gc]] w2 (OutStr (deckT gf gs gl gp grs) w2)) := HDL.out
      simp only at hlen
      generalize deckT gf gs gl gp grs = t0 at hlen HDL2
      clear he ho hn hst hk' HS1 HK1 HDL
      as_aux_lemma =>
        go_wp2_with fail
        refine HDL2.out.mono ?_
        rintro e w3 ⟨rfl, hb⟩
        have HK3 : Hid (Keeps S w w3) := HK2.out.trans (Keeps.of_below hb)
        have HS3 := Lib.hid (HS2.out.below hb)
        clear hb HK2 HS2 HDL2
        as_aux_lemma =>
          go_wp2_with ((refine wpList_val rfl (bl_dks0 _ (fun _ => rfl) _ _  0 0 1 2 rfl) ?_))
          refine (pick_lit S (k + 1 + 43) [0, 0, 1, 2] (fun x => 0 ≤ x ∧ x ≤ 2) _ _ _ HS3.out (by omega) rfl rfl (by decide) (by decide) (by decide)).mono ?_
          rintro e w4 ⟨z, rfl, ⟨z0, z1⟩, hst, hk'⟩
          obtain ⟨z, rfl⟩ := Int.eq_ofNat_of_zero_le z0
          have HS4 := Lib.hid hst
          have HK4 := Lib.hid (HK3.out.trans hk')
          have hz : z ≤ 2 := by omega
          clear hst hk' HS3 HK3 z0 z1
          as_aux_lemma =>
            go_wp2_with fail
            go_loopw [3, 12] (fun vt it wr => ∃ (i : Nat) (t : List UInt8), i ≤ z ∧ it = .int .i64 i ∧ vt = .string ⟨t.toArray⟩ ∧ t.length ≤ 20000 + 100 * i ∧ Hid (StreamOk wr S (k + 1 + 43 + 1 + 3 * i)) ∧ Hid (Keeps S w wr)) (fun _ it _ => z - (intOf it).toNat)
            case atStart => exact ⟨0, t0, Nat.zero_le _, rfl, rfl, by omega, HS4.out, HK4.out⟩
            case round =>
              clear HS4 HK4
              obtain ⟨i, t, hin, rfl, rfl, htl, HS, HK⟩ := hrel
              by_cases hlt : i < z
              · have hlti : (i : Int) < (z : Int) := by omega
                have HCH := Lib.hid (changed_any S (k + 1 + 43 + 1 + 3 * i) wr t [32, 10, 48, 49, 114, 100, 99, 45] HS.out (by omega) (by omega) (by decide))
                as_aux_lemma =>
                  go_wp2_with fail
                  refine HCH.out.mono ?_
                  rintro e w5 ⟨t5, rfl, ht5, hst, hk'⟩
                  have hl5 : t5.length ≤ 20000 + 100 * (i + 1) := by
                    have : t5.length ≤ t.length + 8 + 4 := ht5
                    omega
                  have HS5 : Hid (StreamOk w5 S (k + 1 + 43 + 1 + 3 * (i + 1))) := hst.mono (by omega)
                  have HK5 := Lib.hid (HK.out.trans hk')
                  clear hst hk' ht5 HS HK HCH
                  as_aux_lemma =>
                    go_wp2_with fail
                    go_roundw
                    case rel => exact ⟨i + 1, t5, by omega, by go_num, rfl, hl5, HS5.out, HK5.out⟩
                    case measure => simp [intOf]; omega
              have hnn : ¬ (i : Int) < (z : Int) := by omega
              as_aux_lemma =>
                go_wp2_with fail
                refine (flip_any S (k + 1 + 43 + 1 + 3 * i) 30 _ HS.out (by omega) (by omega) (by omega)).mono ?_
                rintro e w6 ⟨fb, rfl, hst, hk'⟩
                have HS6 : Hid (StreamOk w6 S (k + 60)) := hst.mono (by omega)
                have HK6 := Lib.hid (HK.out.trans hk')
                clear hst hk' HS HK
                cases fb
                · skip
                  as_aux_lemma =>
                    go_wp2_with fail
                    go_ret
                    exact ⟨t, rfl, by omega, HS6.out, HK6.out⟩
                · skip
                  as_aux_lemma =>
                    go_wp2_with fail
                    go_ret
                    exact ⟨[], rfl, by decide, HS6.out, HK6.out⟩
end Go.Proofs.YtacekbbndamkmaaGreatDoor

set_option linter.unusedVariables false
set_option linter.unusedSimpArgs false
namespace Go.Proofs.YtacekbbndamkmaaGreatDoor
open Go.RowKit

theorem rateFor_str (w : World) (ra : Option Addr) (rn rc : Nat) (cs : List Rate) (l : List UInt8) (s : ByteArray) (hs : s = ⟨l.toArray⟩) (hr : RateRow w ra rn cs) (hl : l.length ≤ 1000) :
    Calls Tryz.prog 53 #[.slice ra rn rc, .string s] w (RatePost (refTo cs l cs.length) w) := by
  subst hs
  exact rateFor_any w ra rn rc cs l hr hl
set_option maxRecDepth 100000 in
set_option maxHeartbeats 8000000 in
theorem rateForD_any (w : World) (df ds dl dp : Int) (ra : Option Addr) (rn rc : Nat) (cs : List Rate) (n : List UInt8) (hr : RateRow w ra rn cs) (hn1 : 1 ≤ n.length) (hn2 : n.length ≤ 1000) :
    Calls Tryz.prog 29 #[.agg #[.int .i64 df, .int .i64 ds, .int .i64 dl, .int .i64 dp, .slice ra rn rc], .string ⟨n.toArray⟩] w (RatePost (refTo cs (n.drop 1) cs.length) w) := by
  have hnd : (n.drop 1).length ≤ 1000 := by rw [List.length_drop]; omega
  have HPO : Hid (∀ W, Below w.heap.size w W → Calls Tryz.prog 53 #[.slice ra rn rc, .string ((⟨n.toArray⟩ : ByteArray).extract 1 n.length)] W (RatePost (refTo cs (n.drop 1) cs.length) W)) := fun W hW => rateFor_str W ra rn rc cs (n.drop 1) _ (extract_drop n 1) (hr.below hW) hnd
  have HFIN : Hid (∀ W, Below w.heap.size w W → RatePost (refTo cs (n.drop 1) cs.length) w (.returned (.tuple #[.agg #[.string ⟨((refTo cs (n.drop 1) cs.length).getD noRate).p.toArray⟩, .int .i64 ((refTo cs (n.drop 1) cs.length).getD noRate).price, .bool ((refTo cs (n.drop 1) cs.length).getD noRate).closed], .bool (refTo cs (n.drop 1) cs.length).isSome])) W) := fun W hW => ⟨hW, rfl⟩
  generalize hP : RatePost (refTo cs (n.drop 1) cs.length) w = PP at HFIN ⊢
  clear hP hnd hr
  generalize refTo cs (n.drop 1) cs.length = o at HPO HFIN
  go_enter Tryz.func29, Tryz.ntmps29
  go_upto_region 1 with (fail)
  have HD : Hid (Blk ((w.alloc (.cells #[.int .i64 df, .int .i64 ds, .int .i64 dl, .int .i64 dp, .slice ra rn rc] 28)).alloc (.cells #[.string ⟨#[]⟩, .int .i64 0, .bool false] 51)) w.heap.size [.int .i64 df, .int .i64 ds, .int .i64 dl, .int .i64 dp, .slice ra rn rc] 28) := (Blk.new w [.int .i64 df, .int .i64 ds, .int .i64 dl, .int .i64 dp, .slice ra rn rc] 28).alloc _
  have HZ : Hid (Blk ((w.alloc (.cells #[.int .i64 df, .int .i64 ds, .int .i64 dl, .int .i64 dp, .slice ra rn rc] 28)).alloc (.cells #[.string ⟨#[]⟩, .int .i64 0, .bool false] 51)) (w.heap.size + 1) [.string ⟨#[]⟩, .int .i64 0, .bool false] 51) := by
    have := Blk.new (w.alloc (.cells #[.int .i64 df, .int .i64 ds, .int .i64 dl, .int .i64 dp, .slice ra rn rc] 28)) [.string ⟨#[]⟩, .int .i64 0, .bool false] 51
    show Blk _ _ _ _
    simpa using this
  have HB : Hid (Below w.heap.size w ((w.alloc (.cells #[.int .i64 df, .int .i64 ds, .int .i64 dl, .int .i64 dp, .slice ra rn rc] 28)).alloc (.cells #[.string ⟨#[]⟩, .int .i64 0, .bool false] 51))) := ext_alloc (ext_alloc (Below.refl _ _))
  generalize World.alloc (World.alloc w _) _ = W at HD HZ HB ⊢
  have d4 := HD.out.cell 4 rfl
  go_region_with (go_at_call 53; refine (HPO.out _ (ext_drew HB.out)).mono ?_; rintro e w3 ⟨hb3, rfl⟩; have HZ3 := Lib.hid (HZ.out.below (ext_trans (ext_drew (Below.refl _ _)) hb3)); have z0 := HZ3.out.cell 0 rfl; have z1 := HZ3.out.cell 1 rfl; have z2 := HZ3.out.cell 2 rfl; have zF := HZ3.out.fr)
  all_goals
    have HF3 := Lib.hid (HFIN.out _ (rbox_far 0 (show w.heap.size ≤ w.heap.size + 1 by omega) (ext_trans (ext_drew HB.out) hb3) (.string ⟨(o.getD noRate).p.toArray⟩) (.int .i64 (o.getD noRate).price) (.bool (o.getD noRate).closed)))
    have HZ9 := HZ3.out.put3 (.string ⟨(o.getD noRate).p.toArray⟩) (.int .i64 (o.getD noRate).price) (.bool (o.getD noRate).closed)
    have r0 := HZ9.cell 0 rfl
    have r1 := HZ9.cell 1 rfl
    have r2 := HZ9.cell 2 rfl
    clear HFIN hb3 HZ9
    go_wp2_with fail
    refine bodyPost_ret (by simp [results, Tryz.results29, go_sem, r0, r1, r2]) rfl HF3.out
theorem paid_step {p dp talk : Int} (h1 : 1 ≤ dp) (h : p < talk) : paidR (p + dp) dp talk = paidR p dp talk := by
  unfold paidR
  rw [if_pos h]
  by_cases h2 : p + dp < talk
  · rw [if_pos h2]
    rw [show talk - p + dp - 1 = (talk - (p + dp) + dp - 1) + 1 * dp by omega, Int.add_mul_ediv_right _ _ (by omega), Int.add_mul]
    omega
  · rw [if_neg h2]
    have h3 : (talk - p + dp - 1) / dp = 1 := by
      rw [show talk - p + dp - 1 = (talk - p - 1) + 1 * dp by omega, Int.add_mul_ediv_right _ _ (by omega), Int.ediv_eq_zero_of_lt (by omega) (by omega)]
      rfl
    rw [h3]; omega
set_option maxRecDepth 100000 in
set_option maxHeartbeats 8000000 in
theorem priceFor_any (w : World) (df ds dl dp : Int) (ra : Option Addr) (rn rc : Nat) (cs : List Rate) (n : List UInt8) (talk : Int) (hr : RateRow w ra rn cs) (hg : DeckGood ds dl dp cs) (hn1 : 1 ≤ n.length) (hn2 : n.length ≤ 16) (h5 : 0 ≤ talk ∧ talk ≤ 86400000) :
    Calls Tryz.prog 30 #[.agg #[.int .i64 df, .int .i64 ds, .int .i64 dl, .int .i64 dp, .slice ra rn rc], .string ⟨n.toArray⟩, .int .i64 talk] w (PriceOfPost (priceV ds dl dp cs (n.drop 1) talk) w) := by
  obtain ⟨h1, h2, h3, ho, he⟩ := hg
  have HR := Lib.hid (rateForD_any (w.alloc (.cells #[.int .i64 df, .int .i64 ds, .int .i64 dl, .int .i64 dp, .slice ra rn rc] 28)) df ds dl dp ra rn rc cs n (hr.below (ext_alloc (Below.refl _ _))) hn1 (by omega))
  rw [ref_same ho (by rw [List.length_drop]; omega)] at HR
  have HV : Hid (priceV ds dl dp cs (n.drop 1) talk = match rateOf cs (n.drop 1) 15 with | none => (0, false) | some r => if r.closed = true then (0, false) else (priceR ds dl dp r.price talk, true)) := rfl
  have HM : Hid (∀ r, rateOf cs (n.drop 1) 15 = some r → 0 ≤ r.price ∧ r.price ≤ 100000000) := fun r h => he r (rateTo_mem _ h)
  generalize priceV ds dl dp cs (n.drop 1) talk = V at HV ⊢
  generalize rateOf cs (n.drop 1) 15 = o at HV HR HM
  clear hr ho he
  go_enter Tryz.func30, Tryz.ntmps30
  go_upto_region 1 with (fail)
  have HD : Hid (Blk (w.alloc (.cells #[.int .i64 df, .int .i64 ds, .int .i64 dl, .int .i64 dp, .slice ra rn rc] 28)) w.heap.size [.int .i64 df, .int .i64 ds, .int .i64 dl, .int .i64 dp, .slice ra rn rc] 28) := Blk.new w [.int .i64 df, .int .i64 ds, .int .i64 dl, .int .i64 dp, .slice ra rn rc] 28
  have HB : Hid (Below w.heap.size w (w.alloc (.cells #[.int .i64 df, .int .i64 ds, .int .i64 dl, .int .i64 dp, .slice ra rn rc] 28))) := ext_alloc (Below.refl _ _)
  have hsz : w.heap.size < (w.alloc (.cells #[.int .i64 df, .int .i64 ds, .int .i64 dl, .int .i64 dp, .slice ra rn rc] 28)).heap.size := by simp
  generalize w.alloc _ = W at HD HB HR hsz ⊢
  have HRA : Hid (W.rangeAt w.heap.size 0 [.int .i64 df, .int .i64 ds, .int .i64 dl, .int .i64 dp, .slice ra rn rc]) := fun j v hj => by rw [Nat.zero_add]; exact HD.out.cell j hj
  as_aux_lemma =>
    go_wp2_with (refine wpList_load_mid rfl 28 (.tmp 3) rfl w.heap.size 0 rfl [.int .i64 df, .int .i64 ds, .int .i64 dl, .int .i64 dp, .slice ra rn rc] _ HRA.out Tryz.underlying28 rfl Tryz.deckSz ?_)
    refine HR.out.mono ?_
    rintro e w1 ⟨hb1, rfl⟩
    have HB1 := Lib.hid (ext_trans HB.out hb1)
    have HD1 := Lib.hid (HD.out.below hb1)
    have hz1 : w.heap.size < w1.heap.size := by have := hb1.size; omega
    clear hb1 HB HD HRA HR hsz
    cases o with
    | none =>
      obtain rfl : V = (0, false) := HV.out
      clear HV HM
      as_aux_lemma =>
        go_wp2_with fail
        go_ret2
        exact ⟨rfl, (by (try show Below _ _ _); repeat (with_reducible first | exact Below.refl _ _ | assumption | exact Hid.out (by assumption) | refine ext_alloc ?_ | refine ext_drewN ?_ | refine ext_drew ?_ | refine ext_setCell ?_ (Nat.le_refl _) | refine ext_setCell ?_ (Nat.le_succ _) | refine ext_trans ?_ (by assumption) | (refine ext_setCell ?_ (by simp)) | (refine ext_setCell ?_ (by simp at *; omega))))⟩
    | some r =>
      obtain ⟨rp, pr, cl⟩ := r
      obtain ⟨h40, h41⟩ := HM.out _ rfl
      clear HM
      simp only [Option.getD_some, Option.isSome_some] at h40 h41 ⊢
      cases cl with
      | true =>
        obtain rfl : V = (0, false) := HV.out
        clear HV
        as_aux_lemma =>
          go_wp2_with fail
          go_ret2
          exact ⟨rfl, (by (try show Below _ _ _); repeat (with_reducible first | exact Below.refl _ _ | assumption | exact Hid.out (by assumption) | refine ext_alloc ?_ | refine ext_drewN ?_ | refine ext_drew ?_ | refine ext_setCell ?_ (Nat.le_refl _) | refine ext_setCell ?_ (Nat.le_succ _) | refine ext_trans ?_ (by assumption) | (refine ext_setCell ?_ (by simp)) | (refine ext_setCell ?_ (by simp at *; omega))))⟩
      | false =>
        obtain rfl : V = (priceR ds dl dp pr talk, true) := HV.out
        clear HV
        have HPR : Hid (priceR ds dl dp pr talk = if talk = 0 then ds else ds + (pr * paidR dl dp talk + 59999) / 60000) := rfl
        have d1 := HD1.out.cell 1 rfl
        have d2 := HD1.out.cell 2 rfl
        have d3 := HD1.out.cell 3 rfl
        have hne : w.heap.size ≠ w1.heap.size := by omega
        have hne2 : w1.heap.size ≠ w.heap.size := by omega
        by_cases ht : talk = 0
        · have ht2 : (talk == 0) = true := by simpa using ht
          have HF : Hid (priceR ds dl dp pr talk = ds) := by show _ = ds; rw [HPR.out, if_pos ht]
          clear HPR ht h5
          as_aux_lemma =>
            go_wp2_with fail
            go_ret2
            exact ⟨by rw [HF.out]; rfl, by have HB1 := HB1.out; exact (by (try show Below _ _ _); repeat (with_reducible first | exact Below.refl _ _ | assumption | exact Hid.out (by assumption) | refine ext_alloc ?_ | refine ext_drewN ?_ | refine ext_drew ?_ | refine ext_setCell ?_ (Nat.le_refl _) | refine ext_setCell ?_ (Nat.le_succ _) | refine ext_trans ?_ (by assumption) | (refine ext_setCell ?_ (by simp)) | (refine ext_setCell ?_ (by simp at *; omega))))⟩
        have ht2 : (talk == 0) = false := by simpa using ht
        have HF : Hid (priceR ds dl dp pr talk = ds + (pr * paidR dl dp talk + 59999) / 60000) := by show _ = _; rw [HPR.out, if_neg ht]
        have hpb := paid_bound h2 h3 h5
        clear HPR ht
        skip
        as_aux_lemma =>
          go_upto_region 6 with (fail)
          have HX : Hid (Blk (w1.alloc (.cells #[.string ⟨rp.toArray⟩, .int .i64 pr, .bool false] 51)) w1.heap.size [.string ⟨rp.toArray⟩, .int .i64 pr, .bool false] 51) := Blk.new w1 [.string ⟨rp.toArray⟩, .int .i64 pr, .bool false] 51
          have HDA := Lib.hid (HD1.out.alloc (.cells #[.string ⟨rp.toArray⟩, .int .i64 pr, .bool false] 51))
          have HBA : Hid (Below w.heap.size w (w1.alloc (.cells #[.string ⟨rp.toArray⟩, .int .i64 pr, .bool false] 51))) := ext_alloc HB1.out
          generalize w1.alloc (.cells #[.string ⟨rp.toArray⟩, .int .i64 pr, .bool false] 51) = wa at HX HDA HBA ⊢
          generalize w1.heap.size = X at HX hne hne2 hz1 ⊢
          clear d1 d2 d3 HD1 HB1
          have d1 := HDA.out.cell 1 rfl
          have d2 := HDA.out.cell 2 rfl
          have d3 := HDA.out.cell 3 rfl
          have x1 := HX.out.cell 1 rfl
          go_wp2_with fail
          go_loopw [10] (fun v10 wr => ∃ p : Int, v10 = .int .i64 p ∧ 0 ≤ p ∧ p ≤ 300000000 ∧ Hid (paidR p dp talk = paidR dl dp talk) ∧ Hid (wr = wa)) (fun v10 _ => (talk - intOf v10).toNat)
          case atStart => exact ⟨dl, rfl, h2.1, by omega, rfl, rfl⟩
          case round =>
            obtain ⟨p, rfl, p0, p1, HP, HW⟩ := hrel
            obtain rfl := HW.out
            clear HW
            by_cases hlt : p < talk
            · by_cases hst : 1000000 < dp
              · have wp1 : IntKind.i64.wrap (p + dp) = p + dp := IntWalk.i64_in _ (by omega)
                as_aux_lemma =>
                  go_wp2_with fail
                  go_roundw
                  case rel => exact ⟨p + dp, rfl, by omega, by omega, by show _ = _; rw [paid_step h3.1 hlt]; exact HP.out, by first | exact rfl | exact Lib.hid trivial⟩
                  case measure => simp [intOf]; omega
              · have hM : Hid (p + upD (talk - p) dp * dp = paidR dl dp talk) := by
                  show _ = _
                  rw [← HP.out]; unfold paidR; rw [if_pos hlt]; rfl
                have q0 : 0 ≤ upD (talk - p) dp := Int.ediv_nonneg (by omega) (by omega)
                have q1 : upD (talk - p) dp * dp ≤ talk - p + dp - 1 := Int.ediv_mul_le _ (by omega)
                have q2 : 0 ≤ upD (talk - p) dp * dp := Int.mul_nonneg q0 (by omega)
                have HU := Lib.hid (fun W => upward_any (talk - p) dp ⟨by omega, by omega⟩ ⟨by omega, by omega⟩ W)
                generalize upD (talk - p) dp = U at hM q0 q1 q2 HU
                have v1 : IntKind.i64.wrap (talk - p) = talk - p := IntWalk.i64_in _ (by omega)
                have v2 : IntKind.i64.wrap (U * dp) = U * dp := IntWalk.i64_in _ (by omega)
                have v3 : IntKind.i64.wrap (p + U * dp) = p + U * dp := IntWalk.i64_in _ (by omega)
                clear q0 q1 q2 HP
                as_aux_lemma =>
                  go_upto_region 9 with (fail)
                  go_upto_if 43 with (fail)
                  go_cut [10] (fun v wx => v = .int .i64 (paidR dl dp talk) ∧ Hid (Blk wx w.heap.size [.int .i64 df, .int .i64 ds, .int .i64 dl, .int .i64 dp, .slice ra rn rc] 28) ∧ Hid (Blk wx X [.string ⟨rp.toArray⟩, .int .i64 pr, .bool false] 51) ∧ Hid (Below w.heap.size w wx))
                  case first =>
                    go_wp2_with fail
                    go_quiet (first | (go_at_call 63; refine Calls.quiet_of_same (v := .int .i64 U) ((HU.out _).mono ?_); rintro e w' ⟨rfl, rfl⟩; exact ⟨rfl, rfl⟩))
                    go_wp2_with fail
                    go_meet
                    exact ⟨by rw [hM.out], HDA.out.below (ext_drewN (Below.refl _ _)), HX.out.below (ext_drewN (Below.refl _ _)), ext_drewN HBA.out⟩
                  case rest =>
                    clear d1 d2 d3 x1 HU v1 v2 v3 hM
                    obtain ⟨rfl, HDC, HXC, HBC⟩ := hcut
                    have d1 := HDC.out.cell 1 rfl
                    have x1 := HXC.out.cell 1 rfl
                    have m0 : 0 ≤ pr * paidR dl dp talk := Int.mul_nonneg h40 hpb.1
                    have m1 : pr * paidR dl dp talk ≤ 100000000 * 200000000 := Int.mul_le_mul h41 hpb.2 hpb.1 (by omega)
                    have HU2 := Lib.hid (fun W => upward_any (pr * paidR dl dp talk) 60000 ⟨m0, by omega⟩ ⟨by omega, by omega⟩ W)
                    have HQ : Hid (upD (pr * paidR dl dp talk) 60000 = (pr * paidR dl dp talk + 59999) / 60000) := by show (_ + 60000 - 1) / 60000 = _; congr 1; omega
                    rw [HQ.out] at HU2
                    have v4 : IntKind.i64.wrap (pr * paidR dl dp talk) = pr * paidR dl dp talk := IntWalk.i64_in _ (by omega)
                    have v5 : IntKind.i64.wrap (ds + (pr * paidR dl dp talk + 59999) / 60000) = ds + (pr * paidR dl dp talk + 59999) / 60000 := IntWalk.i64_in _ (by omega)
                    clear m0 m1 hpb HQ h41 h40 HDC HXC
                    generalize (pr * paidR dl dp talk + 59999) / 60000 = Y at HU2 v5 HF
                    as_aux_lemma =>
                      go_wp2_with fail
                      go_region_with (go_at_call 63; refine (HU2.out _).mono ?_; rintro e w' ⟨rfl, rfl⟩)
                      all_goals
                        go_wp2_with fail
                        go_ret2
                        exact ⟨by rw [HF.out]; rfl, by have HBC := HBC.out; exact (by (try show Below _ _ _); repeat (with_reducible first | exact Below.refl _ _ | assumption | exact Hid.out (by assumption) | refine ext_alloc ?_ | refine ext_drewN ?_ | refine ext_drew ?_ | refine ext_setCell ?_ (Nat.le_refl _) | refine ext_setCell ?_ (Nat.le_succ _) | refine ext_trans ?_ (by assumption) | (refine ext_setCell ?_ (by simp)) | (refine ext_setCell ?_ (by simp at *; omega))))⟩
            · have hM : Hid (p = paidR dl dp talk) := by
                show p = _
                rw [← HP.out]; unfold paidR; rw [if_neg hlt]
              clear HP
              as_aux_lemma =>
                go_upto_region 9 with (fail)
                go_upto_if 43 with (fail)
                go_cut [10] (fun v wx => v = .int .i64 (paidR dl dp talk) ∧ Hid (Blk wx w.heap.size [.int .i64 df, .int .i64 ds, .int .i64 dl, .int .i64 dp, .slice ra rn rc] 28) ∧ Hid (Blk wx X [.string ⟨rp.toArray⟩, .int .i64 pr, .bool false] 51) ∧ Hid (Below w.heap.size w wx))
                case first =>
                  go_wp2_with fail
                  go_meet
                  exact ⟨by rw [← hM.out], HDA.out, HX.out, HBA.out⟩
                case rest =>
                  clear d1 d2 d3 x1 hM
                  obtain ⟨rfl, HDC, HXC, HBC⟩ := hcut
                  have d1 := HDC.out.cell 1 rfl
                  have x1 := HXC.out.cell 1 rfl
                  have m0 : 0 ≤ pr * paidR dl dp talk := Int.mul_nonneg h40 hpb.1
                  have m1 : pr * paidR dl dp talk ≤ 100000000 * 200000000 := Int.mul_le_mul h41 hpb.2 hpb.1 (by omega)
                  have HU2 := Lib.hid (fun W => upward_any (pr * paidR dl dp talk) 60000 ⟨m0, by omega⟩ ⟨by omega, by omega⟩ W)
                  have HQ : Hid (upD (pr * paidR dl dp talk) 60000 = (pr * paidR dl dp talk + 59999) / 60000) := by show (_ + 60000 - 1) / 60000 = _; congr 1; omega
                  rw [HQ.out] at HU2
                  have v4 : IntKind.i64.wrap (pr * paidR dl dp talk) = pr * paidR dl dp talk := IntWalk.i64_in _ (by omega)
                  have v5 : IntKind.i64.wrap (ds + (pr * paidR dl dp talk + 59999) / 60000) = ds + (pr * paidR dl dp talk + 59999) / 60000 := IntWalk.i64_in _ (by omega)
                  clear m0 m1 hpb HQ h41 h40 HDC HXC
                  generalize (pr * paidR dl dp talk + 59999) / 60000 = Y at HU2 v5 HF
                  as_aux_lemma =>
                    go_wp2_with fail
                    go_region_with (go_at_call 63; refine (HU2.out _).mono ?_; rintro e w' ⟨rfl, rfl⟩)
                    all_goals
                      go_wp2_with fail
                      go_ret2
                      exact ⟨by rw [HF.out]; rfl, by have HBC := HBC.out; exact (by (try show Below _ _ _); repeat (with_reducible first | exact Below.refl _ _ | assumption | exact Hid.out (by assumption) | refine ext_alloc ?_ | refine ext_drewN ?_ | refine ext_drew ?_ | refine ext_setCell ?_ (Nat.le_refl _) | refine ext_setCell ?_ (Nat.le_succ _) | refine ext_trans ?_ (by assumption) | (refine ext_setCell ?_ (by simp)) | (refine ext_setCell ?_ (by simp at *; omega))))⟩
end Go.Proofs.YtacekbbndamkmaaGreatDoor

set_option linter.unusedVariables false
set_option linter.unusedSimpArgs false
namespace Go.Proofs.YtacekbbndamkmaaGreatDoor
open Go.RowKit

def probeD (B : Nat) : Deck := ⟨0, 0, 0, 60000, some ⟨B, 0, none⟩, 1, 1, [⟨[52, 57], 100, false⟩]⟩
theorem probe_fine {w : World} {B : Nat} (h : Blk w B [.string ⟨#[52, 57]⟩, .int .i64 100, .bool false] 51) : DeckFine w (probeD B) := by
  refine ⟨⟨⟨rfl, Or.inr ⟨B, 0, rfl, h.lt, fun i hi j hj => ?_⟩⟩, by show 1 ≤ 5000; decide, fun i hi => ?_⟩, Nat.le_refl 1, by show (-2000000000000 : Int) ≤ 0 ∧ (0 : Int) ≤ 2000000000000; decide, by show (-2000000000000 : Int) ≤ 0 ∧ (0 : Int) ≤ 2000000000000; decide, by show (-2000000000000 : Int) ≤ 0 ∧ (0 : Int) ≤ 2000000000000; decide, by show (-2000000000000 : Int) ≤ 60000 ∧ (60000 : Int) ≤ 2000000000000; decide⟩
  · have hi : i < 1 := hi
    obtain rfl : i = 0 := by omega
    match j, hj with
    | 0, _ => exact h.cell 0 rfl
    | 1, _ => exact h.cell 1 rfl
    | 2, _ => exact h.cell 2 rfl
  · have hi : i < 1 := hi
    obtain rfl : i = 0 := by omega
    show ([52, 57] : List UInt8).length ≤ 100000 ∧ (-2000000000000 : Int) ≤ 100 ∧ (100 : Int) ≤ 2000000000000
    decide
theorem probe_err (B : Nat) : priceE (probeD B) [43, 52, 57, 51, 48, 49] 61000 = 0 := by
  show priceE ⟨0, 0, 0, 60000, some ⟨B, 0, none⟩, 1, 1, [⟨[52, 57], 100, false⟩]⟩ _ _ = 0
  rfl
theorem probe_val (B : Nat) : priceA (probeD B) [43, 52, 57, 51, 48, 49] 61000 = (200, true) := by
  unfold priceA
  rw [probe_err, if_pos rfl]
  rfl
theorem probe_any (w : World) (B : Nat) (h : Blk w B [.string ⟨#[52, 57]⟩, .int .i64 100, .bool false] 51) : Calls Tryz.prog 27 #[.agg #[.int .i64 0, .int .i64 0, .int .i64 0, .int .i64 60000, .slice (some ⟨B, 0, none⟩) 1 1], .string ⟨#[43, 52, 57, 51, 48, 49]⟩, .int .i64 61000] w fun e w' => e = .returned (.tuple #[.int .i64 200, .bool true, .int .i64 0]) ∧ Below w.heap.size w w' := by
  refine (carPrice_any w (probeD B) (probe_fine h) [43, 52, 57, 51, 48, 49] (by decide) 61000).mono ?_
  rintro e w' ⟨rfl, hb⟩
  rw [probe_err, probe_val]
  exact ⟨rfl, hb⟩
set_option maxRecDepth 100000 in
set_option maxHeartbeats 2000000 in
theorem carried_any (w : World) : Calls Tryz.prog 23 #[] w fun e w' => e = .returned (.bool true) ∧ Below w.heap.size w w' := by
  go_enter Tryz.func23, Tryz.ntmps23
  go_wp2_with fail
  have HB : Hid (Blk (w.alloc (.cells #[.string ⟨#[52, 57]⟩, .int .i64 100, .bool false] 51)) w.heap.size [.string ⟨#[52, 57]⟩, .int .i64 100, .bool false] 51) := Blk.new w [.string ⟨#[52, 57]⟩, .int .i64 100, .bool false] 51
  refine (probe_any _ _ HB.out).mono ?_
  rintro e w1 ⟨rfl, hb⟩
  have HE := Lib.hid (ext_trans (ext_alloc (Below.refl w.heap.size w) (o := .cells #[.string ⟨#[52, 57]⟩, .int .i64 100, .bool false] 51)) hb)
  clear hb HB
  as_aux_lemma =>
    go_wp2_with fail
    go_ret
    exact ⟨rfl, HE.out⟩
end Go.Proofs.YtacekbbndamkmaaGreatDoor

set_option linter.unusedVariables false
set_option linter.unusedSimpArgs false
namespace Go.Proofs.YtacekbbndamkmaaGreatDoor
open Go.RowKit

instance : Inhabited Rate := ⟨noRate⟩
def eqR (x y : Rate) : Bool := x.p == y.p && (x.price == y.price && x.closed == y.closed)
theorem neqR : NeqAt Tryz.prog 51 (fun x : Rate => .agg (Rate.cells x).toArray) eqR := by
  refine ⟨fun x y w => ?_, GuardAt.agg _ (by kernel_rfl)⟩
  obtain ⟨c, n1, b1⟩ := x
  obtain ⟨c', m1, b2⟩ := y
  show (binOp .neq 51 (.agg #[.string ⟨c.toArray⟩, .int .i64 n1, .bool b1]) (.agg #[.string ⟨c'.toArray⟩, .int .i64 m1, .bool b2])).run Tryz.prog w = _
  go_simp
  unfold eqR
  by_cases h1 : c = c' <;> by_cases h2 : n1 = m1 <;> by_cases h3 : b1 = b2 <;> simp [*]
theorem allEqR_self : ∀ (l : List Rate), Lib.allEq eqR l l = true
  | [] => rfl
  | x :: l => by
    show (eqR x x && Lib.allEq eqR l l) = true
    rw [show eqR x x = true by simp [eqR], allEqR_self l]; rfl
theorem bang_getDR {l : List Rate} {j : Nat} (h : j < l.length) : l[j]! = l.getD j noRate := by
  simp [List.getD_eq_getElem?_getD, h]
theorem equalR_none (w : World) (a a2 : Option Addr) (c c2 : Nat) : Calls Tryz.prog 19 #[.slice a 0 c, .slice a2 0 c2] w fun e w' => e = .returned (.bool true) ∧ Below w.heap.size w w' := by
  go_enter Tryz.func19, Tryz.ntmps19
  go_wp2_with fail
  go_loopw [13] (fun i wr => i = .int .i64 0 ∧ Hid (Below w.heap.size w wr)) (fun _ _ => 0)
  case atStart => exact ⟨rfl, (by (try show Below _ _ _); repeat (with_reducible first | exact Below.refl _ _ | assumption | exact Hid.out (by assumption) | refine ext_alloc ?_ | refine ext_drewN ?_ | refine ext_drew ?_ | refine ext_setCell ?_ (Nat.le_refl _) | refine ext_setCell ?_ (Nat.le_succ _) | refine ext_trans ?_ (by assumption) | (refine ext_setCell ?_ (by simp)) | (refine ext_setCell ?_ (by simp at *; omega))))⟩
  case round =>
    obtain ⟨rfl, HB⟩ := hrel
    go_wp2_with fail
    go_ret
    exact ⟨rfl, (by (try show Below _ _ _); repeat (with_reducible first | exact Below.refl _ _ | assumption | exact Hid.out (by assumption) | refine ext_alloc ?_ | refine ext_drewN ?_ | refine ext_drew ?_ | refine ext_setCell ?_ (Nat.le_refl _) | refine ext_setCell ?_ (Nat.le_succ _) | refine ext_trans ?_ (by assumption) | (refine ext_setCell ?_ (by simp)) | (refine ext_setCell ?_ (by simp at *; omega))))⟩
theorem rate_get {w : World} {b off n : Nat} {l : List Rate} (h : RateRow w (some ⟨b, off, none⟩) n l) (j : Nat) (hj : j < l.length) (i : Nat) (v : Value) (hv : (Rate.cells l[j]!)[i]? = some v) : w.cell? ⟨b, off + j * 3 + i, none⟩ = some v := by
  have hl := h.len
  rw [bang_getDR hj] at hv
  obtain ⟨b', off', e, -, hc⟩ := h.at (by omega)
  injection e with e
  injection e with e1 e2 e3
  subst e1
  subst e2
  obtain ⟨c0, c1, c2⟩ := hc j (by omega)
  match i, hv with
  | 0, hv => simp [Rate.cells] at hv; subst hv; rw [Nat.add_zero]; exact c0
  | 1, hv => simp [Rate.cells] at hv; subst hv; exact c1
  | 2, hv => simp [Rate.cells] at hv; subst hv; exact c2
theorem equalR_any (w : World) (a a2 : Option Addr) (n c c2 : Nat) (l : List Rate) (h : RateRow w a n l) (h2 : RateRow w a2 n l) : Calls Tryz.prog 19 #[.slice a n c, .slice a2 n c2] w fun e w' => e = .returned (.bool true) ∧ Below w.heap.size w w' := by
  by_cases h0 : n = 0
  · subst h0
    exact equalR_none w a a2 c c2
  · have hl := h.len
    have hf := h.few
    obtain ⟨b, off, rfl, -, -⟩ := h.at (by omega)
    obtain ⟨b2, off2, rfl, -, -⟩ := h2.at (by omega)
    refine (Tryz.slices_eqR Rate.cells (fun _ => rfl) eqR neqR b off n c b2 off2 n c2 l l w (by omega) (by omega) (by omega) (by omega) (fun j hj i v hv => rate_get h j hj i v hv) (fun j hj i v hv => rate_get h2 j hj i v hv)).mono ?_
    rintro e w' ⟨rfl, q, rfl⟩
    rw [List.take_of_length_le (by omega), allEqR_self]
    exact ⟨rfl, ext_drewN (Below.refl _ _)⟩
set_option maxRecDepth 100000 in
set_option maxHeartbeats 4000000 in
theorem sameDeck_any (w : World) (df ds dl dp : Int) (ra sa : Option Addr) (rn rc sc : Nat) (rates : List Rate) (h : RateRow w ra rn rates) (h2 : RateRow w sa rn rates) : Calls Tryz.prog 10 #[.agg #[.int .i64 df, .int .i64 ds, .int .i64 dl, .int .i64 dp, .slice ra rn rc], .agg #[.int .i64 df, .int .i64 ds, .int .i64 dl, .int .i64 dp, .slice sa rn sc]] w fun e w' => e = .returned (.bool true) ∧ Below w.heap.size w w' := by
  have HEQ := Lib.hid (fun W (hW : Below w.heap.size w W) => equalR_any W ra sa rn rc sc rates (h.below hW) (h2.below hW))
  clear h h2
  go_enter Tryz.func10, Tryz.ntmps10
  go_upto_region 1 with (fail)
  have HD : Hid (Blk ((w.alloc (.cells #[.int .i64 df, .int .i64 ds, .int .i64 dl, .int .i64 dp, .slice ra rn rc] 28)).alloc (.cells #[.int .i64 df, .int .i64 ds, .int .i64 dl, .int .i64 dp, .slice sa rn sc] 28)) w.heap.size [.int .i64 df, .int .i64 ds, .int .i64 dl, .int .i64 dp, .slice ra rn rc] 28) := (Blk.new w [.int .i64 df, .int .i64 ds, .int .i64 dl, .int .i64 dp, .slice ra rn rc] 28).alloc _
  have HE : Hid (Blk ((w.alloc (.cells #[.int .i64 df, .int .i64 ds, .int .i64 dl, .int .i64 dp, .slice ra rn rc] 28)).alloc (.cells #[.int .i64 df, .int .i64 ds, .int .i64 dl, .int .i64 dp, .slice sa rn sc] 28)) (w.heap.size + 1) [.int .i64 df, .int .i64 ds, .int .i64 dl, .int .i64 dp, .slice sa rn sc] 28) := by
    have := Blk.new (w.alloc (.cells #[.int .i64 df, .int .i64 ds, .int .i64 dl, .int .i64 dp, .slice ra rn rc] 28)) [.int .i64 df, .int .i64 ds, .int .i64 dl, .int .i64 dp, .slice sa rn sc] 28
    show Blk _ _ _ _
    simpa using this
  have HB : Hid (Below w.heap.size w ((w.alloc (.cells #[.int .i64 df, .int .i64 ds, .int .i64 dl, .int .i64 dp, .slice ra rn rc] 28)).alloc (.cells #[.int .i64 df, .int .i64 ds, .int .i64 dl, .int .i64 dp, .slice sa rn sc] 28))) := ext_alloc (ext_alloc (Below.refl _ _))
  generalize World.alloc (World.alloc w _) _ = W at HD HE HB ⊢
  have d0 := HD.out.cell 0 rfl
  have d1 := HD.out.cell 1 rfl
  have d2 := HD.out.cell 2 rfl
  have d3 := HD.out.cell 3 rfl
  have d4 := HD.out.cell 4 rfl
  have e0 := HE.out.cell 0 rfl
  have e1 := HE.out.cell 1 rfl
  have e2 := HE.out.cell 2 rfl
  have e3 := HE.out.cell 3 rfl
  have e4 := HE.out.cell 4 rfl
  clear HD HE
  as_aux_lemma =>
    go_wp2_with fail
    refine (HEQ.out _ HB.out).mono ?_
    rintro e w1 ⟨rfl, hb⟩
    have HB1 := Lib.hid (ext_trans HB.out hb)
    clear hb HB HEQ d0 d1 d2 d3 d4 e0 e1 e2 e3 e4
    go_wp2_with fail
    go_ret
    exact ⟨rfl, HB1.out⟩
end Go.Proofs.YtacekbbndamkmaaGreatDoor

set_option linter.unusedVariables false
namespace Go.Proofs.YtacekbbndamkmaaGreatDoor
open Go.RowKit

theorem when_l (b : Bool) (e : Int) (w : World) : Calls Tryz.prog 16 #[.bool b, .int .i64 e] w fun r w' => r = .returned (.int .i64 (if b = true then e else 0)) ∧ w = w' := by
  cases b
  · go_enter Tryz.func16, Tryz.ntmps16
    go_wp2_with fail
    go_ret
    exact ⟨rfl, rfl⟩
  · go_enter Tryz.func16, Tryz.ntmps16
    go_wp2_with fail
    go_ret
    exact ⟨rfl, rfl⟩
end Go.Proofs.YtacekbbndamkmaaGreatDoor
