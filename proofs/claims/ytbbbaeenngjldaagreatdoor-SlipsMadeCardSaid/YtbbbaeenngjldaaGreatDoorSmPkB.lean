/- What is proved here: lemmas and contracts for the statement, put together out of smaller texts (PlanCheck, PlanCtry, PlanAll, ResCell, SplitWalk, StrMath). No condition beyond those stated. -/
import Derived.Test.YtbbbaeenngjldaaGreatDoorSmPkA
import Derived.Test.YtbbbaeenngjldaaGreatDoorShelfNum
import Derived.BigRegion
import Derived.IntWalk
import Derived.Deep.DeepCutAuto
import Derived.Shelf.SlicesQ.Load
import Derived.Deep.MidRow
set_option linter.unusedVariables false
set_option linter.unusedSimpArgs false
namespace Go.Proofs.YtbbbaeenngjldaaGreatDoor
open Go.RowKit

def boxC (x : Ctry) : Obj := .cells x.cells.toArray 179
theorem hasPrefix_any (s p : ByteArray) (w : World) : Calls Tryz.prog 121 #[.string s, .string p] w fun e w' => e = .returned (.bool (Lib.hasPrefix s.data.toList p.data.toList)) ∧ w = w' := (Tryz.strings_HasPrefix s p w).mono (fun e w' h => ⟨h.1, h.2.symm⟩)
theorem hasPrefix_l (s p : List UInt8) (w : World) : Calls Tryz.prog 121 #[.string ⟨s.toArray⟩, .string ⟨p.toArray⟩] w fun e w' => e = .returned (.bool (Lib.hasPrefix s p)) ∧ w = w' := hasPrefix_any ⟨s.toArray⟩ ⟨p.toArray⟩ w
theorem digitsOf_l (s : List UInt8) (lo hi : Int) (w : World) (hs : s.length ≤ 1000000) : Calls Tryz.prog 108 #[.string ⟨s.toArray⟩, .int .i64 lo, .int .i64 hi] w fun e w' => e = .returned (.bool (digitsB s lo hi)) ∧ Below w.heap.size w w' := digitsOf_any ⟨s.toArray⟩ lo hi w (by show s.length ≤ _; omega)

theorem cat_str (x y : List UInt8) : ((⟨x.toArray⟩ : ByteArray) ++ ⟨y.toArray⟩) = ⟨(x ++ y).toArray⟩ := by
  apply ByteArray.ext
  simp
def ErrPost (x : Int) (w : World) (e : Ending) (w' : World) : Prop := e = .returned (.int .i64 x) ∧ Below w.heap.size w w'

set_option maxRecDepth 100000 in
set_option maxHeartbeats 2000000 in
theorem checkArea_any (w : World) (c : Ctry) (hc : CtryFine w c) (i : Nat) (hi : i < c.an) : Calls Tryz.prog 297 #[c.val, .int .i64 i] w (ErrPost (areaErr c i) w) := by
  have hil : i < c.areas.length := by rw [← hc.row.len]; exact hi
  have hfine := hc.each i hil
  have hmany := hc.many
  rcases hc.row.row with h0 | ⟨b, off, haa, hb, hcl⟩
  · omega
  obtain ⟨a0, a1, a2⟩ := area_cells (hcl i hi)
  have HPV : Hid (0 < i → w.cell? ⟨b, off + (i - 1) * 3, none⟩ = some (.string ⟨(prevArea c i).pre.toArray⟩)) := fun h9 => (area_cells (hcl (i - 1) (by omega))).1
  have hcode := hc.code
  have habr := hc.abroad
  have htr := hc.trunk
  have HDEF : Hid (areaErr c i = areaErrOf c i (c.areas.getD i noArea) (prevArea c i)) := rfl
  obtain ⟨f1, f2, f3, f4, f5⟩ := hfine
  generalize areaErr c i = R at HDEF ⊢
  generalize c.areas.getD i noArea = x at a0 a1 a2 HDEF f1 f2 f3 f4 f5
  generalize prevArea c i = p at HPV HDEF
  obtain ⟨code, abroad, trunk, aa, an, ac, areas⟩ := c
  obtain ⟨pre, low, high⟩ := x
  simp only at haa hi hcode habr htr hmany a0 a1 a2 f1 f2 f3 f4 f5
  subst haa
  clear hcl hil hc
  unfold Ctry.val Ctry.cells
  simp only
  go_enter Tryz.func297, Tryz.ntmps297
  go_upto_region 1 with (fail)
  have HCF := Lib.hid hcode
  go_region
  rw [cat_str]
  generalize hW0 : World.drew _ = W1
  have hW := Lib.hid hW0
  clear hW0
  have hBW : Below w.heap.size w W1 := by rw [← hW.out]; exact ext_drew (ext_alloc (ext_alloc (Below.refl _ _)))
  have hzz : W1.heap.size = w.heap.size + 2 := by rw [← hW.out]; simp
  have d0 : W1.cell? ⟨w.heap.size, 0, none⟩ = some (.string ⟨code.toArray⟩) := by rw [← hW.out]; go_simp
  have d1 : W1.cell? ⟨w.heap.size, 1, none⟩ = some (.string ⟨abroad.toArray⟩) := by rw [← hW.out]; go_simp
  have d3 : W1.cell? ⟨w.heap.size, 3, none⟩ = some (.slice (some ⟨b, off, none⟩) an ac) := by rw [← hW.out]; go_simp
  have e0 : W1.cell? ⟨w.heap.size + 1, 0, none⟩ = some (.string ⟨pre.toArray⟩) := by rw [← hW.out]; go_simp
  have e1 : W1.cell? ⟨w.heap.size + 1, 1, none⟩ = some (.int .i64 low) := by rw [← hW.out]; go_simp
  have e2 : W1.cell? ⟨w.heap.size + 1, 2, none⟩ = some (.int .i64 high) := by rw [← hW.out]; go_simp
  have HB1 := Lib.hid hBW
  have hz1 : w.heap.size + 1 < W1.heap.size := by omega
  have hz0 : w.heap.size < W1.heap.size := by omega
  clear hW hBW hzz a0 a1 a2
  as_aux_lemma =>
    go_wp2_with fail
    refine (digitsOf_l pre 1 8 _ (by omega)).mono ?_
    rintro e w2 ⟨rfl, hb2⟩
    have HB2 := Lib.hid (ext_trans HB1.out hb2)
    obtain ⟨qc, qf⟩ := bcell hb2
    have D0 := (qc _ 0 hz0).trans d0
    have D1 := (qc _ 1 hz0).trans d1
    have D3 := (qc _ 3 hz0).trans d3
    have E0 := (qc _ 0 hz1).trans e0
    have E1 := (qc _ 1 hz1).trans e1
    have E2 := (qc _ 2 hz1).trans e2
    have hz2 : w.heap.size + 1 < w2.heap.size := Nat.lt_of_lt_of_le hz1 hb2.size
    have hzb : b < w2.heap.size := Nat.lt_of_lt_of_le hb HB2.out.size
    have HPV2 : Hid (0 < i → w2.cell? ⟨b, off + (i - 1) * 3, none⟩ = some (.string ⟨p.pre.toArray⟩)) := fun h9 => (HB2.out.cell (p := ⟨b, off + (i - 1) * 3, none⟩) hb).trans (HPV.out h9)
    have HD2 : Hid (R = if digitsB pre 1 8 = false then 3 else if (decide (0 < i) && leS pre p.pre) = true then 7 else if ((decide (0 < i) && Lib.hasPrefix pre p.pre) || (Lib.hasPrefix (trunk ++ pre) abroad || Lib.hasPrefix abroad (trunk ++ pre))) = true then 13 else if areaBad code pre low high = true then 1 else 0) := HDEF.out
    clear qc qf hb2 d0 d1 d3 e0 e1 e2 HB1 HPV HDEF
    generalize digitsB pre 1 8 = g1 at HD2 ⊢
    as_aux_lemma =>
      cases g1
      · have HR : Hid (R = 3) := HD2.out
        as_aux_lemma =>
          go_wp2_with fail
          go_ret
          exact ⟨by rw [HR.out]; rfl, HB2.out⟩
      · have HD3 : Hid (R = if (decide (0 < i) && leS pre p.pre) = true then 7 else if ((decide (0 < i) && Lib.hasPrefix pre p.pre) || (Lib.hasPrefix (trunk ++ pre) abroad || Lib.hasPrefix abroad (trunk ++ pre))) = true then 13 else if areaBad code pre low high = true then 1 else 0) := HD2.out
        go_upto_region 4 with (fail)
        go_cut [26] (fun s26 wx => s26 = .bool (decide (0 < i) && leS pre p.pre) ∧ Hid (wx = w2.drew))
        case first =>
          by_cases hi0 : i = 0
          · have hk1 : decide (0 < i) = false := decide_eq_false (by omega)
            clear hi0
            as_aux_lemma =>
              refine region_seqI (S := (fun _ => True)) [(true, 0), (true, 1), (true, 2), (true, 3), (true, 4), (true, 5), (true, 6), (true, 7), (true, 8), (true, 9), (true, 10), (true, 11), (true, 12), (true, 13), (true, 14)] (by kernel_rfl) (by kernel_rfl) rfl (by kernel_rfl) trivial ?_
              simp only [seqOps, List.getD_cons_zero, List.getD_cons_succ]
              refine seqI_take (v := .int .i64 i) rfl (fun w9 hS9 => by go_simp) (fun _ _ _ h => h) ?_
              simp only [Act.put, List.setIfInBounds_toArray, List.set_cons_zero, List.set_cons_succ]
              refine seqI_take (v := .bool false) rfl (fun w9 hS9 => by go_simp) (fun _ _ _ h => h) ?_
              simp only [Act.put, List.setIfInBounds_toArray, List.set_cons_zero, List.set_cons_succ]
              refine seqI_take (v := .bool false) rfl (fun w9 hS9 => by go_simp) (fun _ _ _ h => h) ?_
              simp only [Act.put, List.setIfInBounds_toArray, List.set_cons_zero, List.set_cons_succ]
              refine seqI_skip rfl (fun _ _ _ h => h) ?_
              simp only [Act.put, List.setIfInBounds_toArray, List.set_cons_zero, List.set_cons_succ]
              refine seqI_skip rfl (fun _ _ _ h => h) ?_
              simp only [Act.put, List.setIfInBounds_toArray, List.set_cons_zero, List.set_cons_succ]
              refine seqI_skip rfl (fun _ _ _ h => h) ?_
              simp only [Act.put, List.setIfInBounds_toArray, List.set_cons_zero, List.set_cons_succ]
              refine seqI_skip rfl (fun _ _ _ h => h) ?_
              simp only [Act.put, List.setIfInBounds_toArray, List.set_cons_zero, List.set_cons_succ]
              refine seqI_skip rfl (fun _ _ _ h => h) ?_
              simp only [Act.put, List.setIfInBounds_toArray, List.set_cons_zero, List.set_cons_succ]
              refine seqI_skip rfl (fun _ _ _ h => h) ?_
              simp only [Act.put, List.setIfInBounds_toArray, List.set_cons_zero, List.set_cons_succ]
              refine seqI_skip rfl (fun _ _ _ h => h) ?_
              simp only [Act.put, List.setIfInBounds_toArray, List.set_cons_zero, List.set_cons_succ]
              refine seqI_skip rfl (fun _ _ _ h => h) ?_
              simp only [Act.put, List.setIfInBounds_toArray, List.set_cons_zero, List.set_cons_succ]
              refine seqI_skip rfl (fun _ _ _ h => h) ?_
              simp only [Act.put, List.setIfInBounds_toArray, List.set_cons_zero, List.set_cons_succ]
              refine seqI_skip rfl (fun _ _ _ h => h) ?_
              simp only [Act.put, List.setIfInBounds_toArray, List.set_cons_zero, List.set_cons_succ]
              refine seqI_take (v := .bool false) rfl (fun w9 hS9 => by go_simp) (fun _ _ _ h => h) ?_
              simp only [Act.put, List.setIfInBounds_toArray, List.set_cons_zero, List.set_cons_succ]
              refine seqI_take (v := .bool false) rfl (fun w9 hS9 => by go_simp) (fun _ _ _ h => h) ?_
              simp only [Act.put, List.setIfInBounds_toArray, List.set_cons_zero, List.set_cons_succ]
              refine seqI_nil ?_
              go_wp2_with fail
              go_meet
              exact ⟨by rw [hk1]; rfl, rfl⟩
          · have hk1 : 0 < i := by omega
            have hk2 : decide (0 < i) = true := decide_eq_true hk1
            have p0 := HPV2.out hk1
            have kq : ((i : Int) - 1).toNat = i - 1 := by omega
            have kr : 0 ≤ (i : Int) - 1 := by omega
            have ks : (i : Int) - 1 < an := by omega
            have kw : IntKind.i64.wrap ((i : Int) - 1) = (i : Int) - 1 := IntWalk.i64_in _ (by omega)
            as_aux_lemma =>
              refine region_seqI (S := (fun (w9 : World) => w9.cell? ⟨w.heap.size, 3, none⟩ = some (.slice (some ⟨b, off, none⟩) an ac) ∧ w9.cell? ⟨w.heap.size + 1, 0, none⟩ = some (.string ⟨pre.toArray⟩) ∧ w9.cell? ⟨b, off + (i - 1) * 3, none⟩ = some (.string ⟨p.pre.toArray⟩))) [(true, 0), (true, 1), (true, 2), (true, 3), (true, 4), (true, 5), (true, 6), (true, 7), (true, 8), (true, 9), (true, 10), (true, 11), (true, 12), (true, 13), (true, 14)] (by kernel_rfl) (by kernel_rfl) rfl (by kernel_rfl) ⟨D3, E0, p0⟩ ?_
              simp only [seqOps, List.getD_cons_zero, List.getD_cons_succ]
              refine seqI_take (v := .int .i64 i) rfl (fun w9 hS9 => by obtain ⟨s0, s1, s2⟩ := hS9; go_simp) (fun _ _ _ h => h) ?_
              simp only [Act.put, List.setIfInBounds_toArray, List.set_cons_zero, List.set_cons_succ]
              refine seqI_take (v := .bool true) rfl (fun w9 hS9 => by obtain ⟨s0, s1, s2⟩ := hS9; go_simp) (fun _ _ _ h => h) ?_
              simp only [Act.put, List.setIfInBounds_toArray, List.set_cons_zero, List.set_cons_succ]
              refine seqI_take (v := .bool true) rfl (fun w9 hS9 => by obtain ⟨s0, s1, s2⟩ := hS9; go_simp) (fun _ _ _ h => h) ?_
              simp only [Act.put, List.setIfInBounds_toArray, List.set_cons_zero, List.set_cons_succ]
              refine seqI_take (v := .pointer (some ⟨w.heap.size + 1, 0, none⟩)) rfl (fun w9 hS9 => by obtain ⟨s0, s1, s2⟩ := hS9; go_simp) (fun _ _ _ h => h) ?_
              simp only [Act.put, List.setIfInBounds_toArray, List.set_cons_zero, List.set_cons_succ]
              refine seqI_take (v := .string ⟨pre.toArray⟩) rfl (fun w9 hS9 => by obtain ⟨s0, s1, s2⟩ := hS9; go_simp) (fun _ _ _ h => h) ?_
              simp only [Act.put, List.setIfInBounds_toArray, List.set_cons_zero, List.set_cons_succ]
              refine seqI_take (v := .pointer (some ⟨w.heap.size, 3, none⟩)) rfl (fun w9 hS9 => by obtain ⟨s0, s1, s2⟩ := hS9; go_simp) (fun _ _ _ h => h) ?_
              simp only [Act.put, List.setIfInBounds_toArray, List.set_cons_zero, List.set_cons_succ]
              refine seqI_take (v := .slice (some ⟨b, off, none⟩) an ac) rfl (fun w9 hS9 => by obtain ⟨s0, s1, s2⟩ := hS9; go_simp) (fun _ _ _ h => h) ?_
              simp only [Act.put, List.setIfInBounds_toArray, List.set_cons_zero, List.set_cons_succ]
              refine seqI_take (v := .int .i64 i) rfl (fun w9 hS9 => by obtain ⟨s0, s1, s2⟩ := hS9; go_simp) (fun _ _ _ h => h) ?_
              simp only [Act.put, List.setIfInBounds_toArray, List.set_cons_zero, List.set_cons_succ]
              refine seqI_take (v := .int .i64 ((i : Int) - 1)) rfl (fun w9 hS9 => by obtain ⟨s0, s1, s2⟩ := hS9; go_simp) (fun _ _ _ h => h) ?_
              simp only [Act.put, List.setIfInBounds_toArray, List.set_cons_zero, List.set_cons_succ]
              refine seqI_take (v := .pointer (some ⟨b, off + (i - 1) * 3, none⟩)) rfl (fun w9 hS9 => by obtain ⟨s0, s1, s2⟩ := hS9; (go_simp; intro h9; exfalso; omega)) (fun _ _ _ h => h) ?_
              simp only [Act.put, List.setIfInBounds_toArray, List.set_cons_zero, List.set_cons_succ]
              refine seqI_take (v := .pointer (some ⟨b, off + (i - 1) * 3, none⟩)) rfl (fun w9 hS9 => by obtain ⟨s0, s1, s2⟩ := hS9; go_simp) (fun _ _ _ h => h) ?_
              simp only [Act.put, List.setIfInBounds_toArray, List.set_cons_zero, List.set_cons_succ]
              refine seqI_take (v := .string ⟨p.pre.toArray⟩) rfl (fun w9 hS9 => by obtain ⟨s0, s1, s2⟩ := hS9; go_simp) (fun _ _ _ h => h) ?_
              simp only [Act.put, List.setIfInBounds_toArray, List.set_cons_zero, List.set_cons_succ]
              refine seqI_take (v := .bool (leS pre p.pre)) rfl (fun w9 hS9 => by obtain ⟨s0, s1, s2⟩ := hS9; (go_simp; rfl)) (fun _ _ _ h => h) ?_
              simp only [Act.put, List.setIfInBounds_toArray, List.set_cons_zero, List.set_cons_succ]
              refine seqI_take (v := .bool (leS pre p.pre)) rfl (fun w9 hS9 => by obtain ⟨s0, s1, s2⟩ := hS9; go_simp) (fun _ _ _ h => h) ?_
              simp only [Act.put, List.setIfInBounds_toArray, List.set_cons_zero, List.set_cons_succ]
              refine seqI_take (v := .bool (leS pre p.pre)) rfl (fun w9 hS9 => by obtain ⟨s0, s1, s2⟩ := hS9; go_simp) (fun _ _ _ h => h) ?_
              simp only [Act.put, List.setIfInBounds_toArray, List.set_cons_zero, List.set_cons_succ]
              refine seqI_nil ?_
              go_wp2_with fail
              go_meet
              exact ⟨by rw [hk2]; rfl, rfl⟩
        case rest =>
          obtain ⟨rfl, HM⟩ := hcut
          obtain ⟨W, rfl⟩ : ∃ W : World, W = wc := ⟨_, rfl⟩
          have hW := HM.out
          have HBN : Hid (Below w.heap.size w W) := by show Below _ _ _; rw [hW]; exact ext_drew HB2.out
          have D0' : W.cell? ⟨w.heap.size, 0, none⟩ = some (.string ⟨code.toArray⟩) := by rw [hW]; exact D0
          have D1' : W.cell? ⟨w.heap.size, 1, none⟩ = some (.string ⟨abroad.toArray⟩) := by rw [hW]; exact D1
          have D3' : W.cell? ⟨w.heap.size, 3, none⟩ = some (.slice (some ⟨b, off, none⟩) an ac) := by rw [hW]; exact D3
          have E0' : W.cell? ⟨w.heap.size + 1, 0, none⟩ = some (.string ⟨pre.toArray⟩) := by rw [hW]; exact E0
          have E1' : W.cell? ⟨w.heap.size + 1, 1, none⟩ = some (.int .i64 low) := by rw [hW]; exact E1
          have E2' : W.cell? ⟨w.heap.size + 1, 2, none⟩ = some (.int .i64 high) := by rw [hW]; exact E2
          have HPW : Hid (0 < i → W.cell? ⟨b, off + (i - 1) * 3, none⟩ = some (.string ⟨p.pre.toArray⟩)) := fun h9 => by rw [hW]; exact HPV2.out h9
          clear hW HM D0 D1 D3 E0 E1 E2
          as_aux_lemma =>
            generalize (decide (0 < i) && leS pre p.pre) = g4 at HD3 ⊢
            cases g4
            · have HD5 : Hid (R = if ((decide (0 < i) && Lib.hasPrefix pre p.pre) || (Lib.hasPrefix (trunk ++ pre) abroad || Lib.hasPrefix abroad (trunk ++ pre))) = true then 13 else if areaBad code pre low high = true then 1 else 0) := HD3.out
              as_aux_lemma =>
                go_upto_region 6 with (fail)
                go_cut [41] (fun s41 wx => s41 = .bool (decide (0 < i) && Lib.hasPrefix pre p.pre) ∧ Hid (wx = W.drew))
                case first =>
                  by_cases hi0 : i = 0
                  · have hk1 : decide (0 < i) = false := decide_eq_false (by omega)
                    clear hi0
                    as_aux_lemma =>
                      refine region_seqI (S := (fun _ => True)) [(true, 0), (true, 1), (true, 2), (true, 3), (true, 4), (true, 5), (true, 6), (true, 7), (true, 8), (true, 9), (true, 10), (true, 11), (true, 12), (true, 13), (true, 14)] (by kernel_rfl) (by kernel_rfl) rfl (by kernel_rfl) trivial ?_
                      simp only [seqOps, List.getD_cons_zero, List.getD_cons_succ]
                      refine seqI_take (v := .int .i64 i) rfl (fun w9 hS9 => by go_simp) (fun _ _ _ h => h) ?_
                      simp only [Act.put, List.setIfInBounds_toArray, List.set_cons_zero, List.set_cons_succ]
                      refine seqI_take (v := .bool false) rfl (fun w9 hS9 => by go_simp) (fun _ _ _ h => h) ?_
                      simp only [Act.put, List.setIfInBounds_toArray, List.set_cons_zero, List.set_cons_succ]
                      refine seqI_take (v := .bool false) rfl (fun w9 hS9 => by go_simp) (fun _ _ _ h => h) ?_
                      simp only [Act.put, List.setIfInBounds_toArray, List.set_cons_zero, List.set_cons_succ]
                      refine seqI_skip rfl (fun _ _ _ h => h) ?_
                      simp only [Act.put, List.setIfInBounds_toArray, List.set_cons_zero, List.set_cons_succ]
                      refine seqI_skip rfl (fun _ _ _ h => h) ?_
                      simp only [Act.put, List.setIfInBounds_toArray, List.set_cons_zero, List.set_cons_succ]
                      refine seqI_skip rfl (fun _ _ _ h => h) ?_
                      simp only [Act.put, List.setIfInBounds_toArray, List.set_cons_zero, List.set_cons_succ]
                      refine seqI_skip rfl (fun _ _ _ h => h) ?_
                      simp only [Act.put, List.setIfInBounds_toArray, List.set_cons_zero, List.set_cons_succ]
                      refine seqI_skip rfl (fun _ _ _ h => h) ?_
                      simp only [Act.put, List.setIfInBounds_toArray, List.set_cons_zero, List.set_cons_succ]
                      refine seqI_skip rfl (fun _ _ _ h => h) ?_
                      simp only [Act.put, List.setIfInBounds_toArray, List.set_cons_zero, List.set_cons_succ]
                      refine seqI_skip rfl (fun _ _ _ h => h) ?_
                      simp only [Act.put, List.setIfInBounds_toArray, List.set_cons_zero, List.set_cons_succ]
                      refine seqI_skip rfl (fun _ _ _ h => h) ?_
                      simp only [Act.put, List.setIfInBounds_toArray, List.set_cons_zero, List.set_cons_succ]
                      refine seqI_skip rfl (fun _ _ _ h => h) ?_
                      simp only [Act.put, List.setIfInBounds_toArray, List.set_cons_zero, List.set_cons_succ]
                      refine seqI_skip rfl (fun _ _ _ h => h) ?_
                      simp only [Act.put, List.setIfInBounds_toArray, List.set_cons_zero, List.set_cons_succ]
                      refine seqI_take (v := .bool false) rfl (fun w9 hS9 => by go_simp) (fun _ _ _ h => h) ?_
                      simp only [Act.put, List.setIfInBounds_toArray, List.set_cons_zero, List.set_cons_succ]
                      refine seqI_take (v := .bool false) rfl (fun w9 hS9 => by go_simp) (fun _ _ _ h => h) ?_
                      simp only [Act.put, List.setIfInBounds_toArray, List.set_cons_zero, List.set_cons_succ]
                      refine seqI_nil ?_
                      go_wp2_with fail
                      go_meet
                      exact ⟨by rw [hk1]; rfl, rfl⟩
                  · have hk1 : 0 < i := by omega
                    have hk2 : decide (0 < i) = true := decide_eq_true hk1
                    have p0 := HPW.out hk1
                    have kq : ((i : Int) - 1).toNat = i - 1 := by omega
                    have kr : 0 ≤ (i : Int) - 1 := by omega
                    have ks : (i : Int) - 1 < an := by omega
                    have kw : IntKind.i64.wrap ((i : Int) - 1) = (i : Int) - 1 := IntWalk.i64_in _ (by omega)
                    as_aux_lemma =>
                      refine region_seqI (S := (fun (w9 : World) => w9.cell? ⟨w.heap.size, 3, none⟩ = some (.slice (some ⟨b, off, none⟩) an ac) ∧ w9.cell? ⟨w.heap.size + 1, 0, none⟩ = some (.string ⟨pre.toArray⟩) ∧ w9.cell? ⟨b, off + (i - 1) * 3, none⟩ = some (.string ⟨p.pre.toArray⟩))) [(true, 0), (true, 1), (true, 2), (true, 3), (true, 4), (true, 5), (true, 6), (true, 7), (true, 8), (true, 9), (true, 10), (true, 11), (false, 12), (true, 13), (true, 14)] (by kernel_rfl) (by kernel_rfl) rfl (by kernel_rfl) ⟨D3', E0', p0⟩ ?_
                      simp only [seqOps, List.getD_cons_zero, List.getD_cons_succ]
                      refine seqI_take (v := .int .i64 i) rfl (fun w9 hS9 => by obtain ⟨s0, s1, s2⟩ := hS9; go_simp) (fun _ _ _ h => h) ?_
                      simp only [Act.put, List.setIfInBounds_toArray, List.set_cons_zero, List.set_cons_succ]
                      refine seqI_take (v := .bool true) rfl (fun w9 hS9 => by obtain ⟨s0, s1, s2⟩ := hS9; go_simp) (fun _ _ _ h => h) ?_
                      simp only [Act.put, List.setIfInBounds_toArray, List.set_cons_zero, List.set_cons_succ]
                      refine seqI_take (v := .bool true) rfl (fun w9 hS9 => by obtain ⟨s0, s1, s2⟩ := hS9; go_simp) (fun _ _ _ h => h) ?_
                      simp only [Act.put, List.setIfInBounds_toArray, List.set_cons_zero, List.set_cons_succ]
                      refine seqI_take (v := .pointer (some ⟨w.heap.size + 1, 0, none⟩)) rfl (fun w9 hS9 => by obtain ⟨s0, s1, s2⟩ := hS9; go_simp) (fun _ _ _ h => h) ?_
                      simp only [Act.put, List.setIfInBounds_toArray, List.set_cons_zero, List.set_cons_succ]
                      refine seqI_take (v := .string ⟨pre.toArray⟩) rfl (fun w9 hS9 => by obtain ⟨s0, s1, s2⟩ := hS9; go_simp) (fun _ _ _ h => h) ?_
                      simp only [Act.put, List.setIfInBounds_toArray, List.set_cons_zero, List.set_cons_succ]
                      refine seqI_take (v := .pointer (some ⟨w.heap.size, 3, none⟩)) rfl (fun w9 hS9 => by obtain ⟨s0, s1, s2⟩ := hS9; go_simp) (fun _ _ _ h => h) ?_
                      simp only [Act.put, List.setIfInBounds_toArray, List.set_cons_zero, List.set_cons_succ]
                      refine seqI_take (v := .slice (some ⟨b, off, none⟩) an ac) rfl (fun w9 hS9 => by obtain ⟨s0, s1, s2⟩ := hS9; go_simp) (fun _ _ _ h => h) ?_
                      simp only [Act.put, List.setIfInBounds_toArray, List.set_cons_zero, List.set_cons_succ]
                      refine seqI_take (v := .int .i64 i) rfl (fun w9 hS9 => by obtain ⟨s0, s1, s2⟩ := hS9; go_simp) (fun _ _ _ h => h) ?_
                      simp only [Act.put, List.setIfInBounds_toArray, List.set_cons_zero, List.set_cons_succ]
                      refine seqI_take (v := .int .i64 ((i : Int) - 1)) rfl (fun w9 hS9 => by obtain ⟨s0, s1, s2⟩ := hS9; go_simp) (fun _ _ _ h => h) ?_
                      simp only [Act.put, List.setIfInBounds_toArray, List.set_cons_zero, List.set_cons_succ]
                      refine seqI_take (v := .pointer (some ⟨b, off + (i - 1) * 3, none⟩)) rfl (fun w9 hS9 => by obtain ⟨s0, s1, s2⟩ := hS9; (go_simp; intro h9; exfalso; omega)) (fun _ _ _ h => h) ?_
                      simp only [Act.put, List.setIfInBounds_toArray, List.set_cons_zero, List.set_cons_succ]
                      refine seqI_take (v := .pointer (some ⟨b, off + (i - 1) * 3, none⟩)) rfl (fun w9 hS9 => by obtain ⟨s0, s1, s2⟩ := hS9; go_simp) (fun _ _ _ h => h) ?_
                      simp only [Act.put, List.setIfInBounds_toArray, List.set_cons_zero, List.set_cons_succ]
                      refine seqI_take (v := .string ⟨p.pre.toArray⟩) rfl (fun w9 hS9 => by obtain ⟨s0, s1, s2⟩ := hS9; go_simp) (fun _ _ _ h => h) ?_
                      simp only [Act.put, List.setIfInBounds_toArray, List.set_cons_zero, List.set_cons_succ]
                      refine seqI_call 121 #[.string ⟨pre.toArray⟩, .string ⟨p.pre.toArray⟩] rfl (by go_simp) (hasPrefix_l pre p.pre _) ?_
                      rintro e w9 ⟨rfl, rfl⟩
                      refine ⟨_, rfl, ⟨D3', E0', p0⟩, ?_⟩
                      simp only [Act.put, List.setIfInBounds_toArray, List.set_cons_zero, List.set_cons_succ]
                      refine seqI_take (v := .bool (Lib.hasPrefix pre p.pre)) rfl (fun w9 hS9 => by obtain ⟨s0, s1, s2⟩ := hS9; go_simp) (fun _ _ _ h => h) ?_
                      simp only [Act.put, List.setIfInBounds_toArray, List.set_cons_zero, List.set_cons_succ]
                      refine seqI_take (v := .bool (Lib.hasPrefix pre p.pre)) rfl (fun w9 hS9 => by obtain ⟨s0, s1, s2⟩ := hS9; go_simp) (fun _ _ _ h => h) ?_
                      simp only [Act.put, List.setIfInBounds_toArray, List.set_cons_zero, List.set_cons_succ]
                      refine seqI_nil ?_
                      go_wp2_with fail
                      go_meet
                      exact ⟨by rw [hk2]; rfl, rfl⟩
                case rest =>
                  obtain ⟨rfl, HM⟩ := hcut
                  obtain ⟨W9, rfl⟩ : ∃ W9 : World, W9 = wc := ⟨_, rfl⟩
                  have hW := HM.out
                  have HB9 : Hid (Below w.heap.size w W9) := by show Below _ _ _; rw [hW]; exact ext_drew HBN.out
                  have D09 : W9.cell? ⟨w.heap.size, 0, none⟩ = some (.string ⟨code.toArray⟩) := by rw [hW]; exact D0'
                  have D19 : W9.cell? ⟨w.heap.size, 1, none⟩ = some (.string ⟨abroad.toArray⟩) := by rw [hW]; exact D1'
                  have E09 : W9.cell? ⟨w.heap.size + 1, 0, none⟩ = some (.string ⟨pre.toArray⟩) := by rw [hW]; exact E0'
                  have E19 : W9.cell? ⟨w.heap.size + 1, 1, none⟩ = some (.int .i64 low) := by rw [hW]; exact E1'
                  have E29 : W9.cell? ⟨w.heap.size + 1, 2, none⟩ = some (.int .i64 high) := by rw [hW]; exact E2'
                  clear hW HM D0' D1' D3' E0' E1' E2'
                  as_aux_lemma =>
                    generalize (decide (0 < i) && Lib.hasPrefix pre p.pre) = g5 at HD5 ⊢
                    cases g5
                    · have HT : Hid (R = if (Lib.hasPrefix (trunk ++ pre) abroad || Lib.hasPrefix abroad (trunk ++ pre)) = true then 13 else if areaBad code pre low high = true then 1 else 0) := HD5.out
                      clear HPW HD5 HD3
                      as_aux_lemma =>
                        go_wp2_with fail
                        refine (hasPrefix_l (trunk ++ pre) abroad _).mono ?_
                        rintro e w' ⟨rfl, rfl⟩
                        generalize Lib.hasPrefix (trunk ++ pre) abroad = g2 at HT ⊢
                        as_aux_lemma =>
                          cases g2
                          · go_wp2_with fail
                            refine (hasPrefix_l abroad (trunk ++ pre) _).mono ?_
                            rintro e w' ⟨rfl, rfl⟩
                            generalize Lib.hasPrefix abroad (trunk ++ pre) = g3 at HT ⊢
                            as_aux_lemma =>
                              cases g3
                              · have HT2 : Hid (R = if areaBad code pre low high = true then 1 else 0) := HT.out
                                by_cases k1 : low ≤ (pre.length : Int)
                                · have HF : Hid (R = 1) := by show _ = _; rw [HT2.out, if_pos]; unfold areaBad; rw [decide_eq_true k1]; rfl
                                  as_aux_lemma =>
                                    go_wp2_with fail
                                    go_ret
                                    exact ⟨by rw [HF.out]; rfl, HB9.out⟩
                                · have k1' : decide (low ≤ (pre.length : Int)) = false := decide_eq_false k1
                                  by_cases k2 : high < low
                                  · have HF : Hid (R = 1) := by show _ = _; rw [HT2.out, if_pos]; unfold areaBad; rw [k1', decide_eq_true k2]; rfl
                                    as_aux_lemma =>
                                      go_wp2_with fail
                                      go_ret
                                      exact ⟨by rw [HF.out]; rfl, HB9.out⟩
                                  · have k2' : decide (high < low) = false := decide_eq_false k2
                                    by_cases k3 : 15 - (code.length : Int) < high
                                    · have HF : Hid (R = 1) := by show _ = _; rw [HT2.out, if_pos]; unfold areaBad; rw [k1', k2', decide_eq_true k3]; rfl
                                      as_aux_lemma =>
                                        go_wp2_with fail
                                        go_ret
                                        exact ⟨by rw [HF.out]; rfl, HB9.out⟩
                                    · have k3' : decide (15 - (code.length : Int) < high) = false := decide_eq_false k3
                                      by_cases k4 : low < 4 - (code.length : Int)
                                      · have HF : Hid (R = 1) := by show _ = _; rw [HT2.out, if_pos]; unfold areaBad; rw [k1', k2', k3', decide_eq_true k4]; rfl
                                        as_aux_lemma =>
                                          go_wp2_with fail
                                          go_ret
                                          exact ⟨by rw [HF.out]; rfl, HB9.out⟩
                                      · have k4' : decide (low < 4 - (code.length : Int)) = false := decide_eq_false k4
                                        have HF : Hid (R = 0) := by show _ = _; rw [HT2.out, if_neg]; unfold areaBad; rw [k1', k2', k3', k4']; simp
                                        as_aux_lemma =>
                                          go_wp2_with fail
                                          go_ret
                                          exact ⟨by rw [HF.out]; rfl, HB9.out⟩
                              · have HF : Hid (R = 13) := HT.out
                                as_aux_lemma =>
                                  go_wp2_with fail
                                  go_ret
                                  exact ⟨by rw [HF.out]; rfl, HB9.out⟩
                          · have HF : Hid (R = 13) := HT.out
                            as_aux_lemma =>
                              go_wp2_with fail
                              go_ret
                              exact ⟨by rw [HF.out]; rfl, HB9.out⟩
                    · have HF : Hid (R = 13) := HD5.out
                      as_aux_lemma =>
                        go_wp2_with fail
                        go_ret
                        exact ⟨by rw [HF.out]; rfl, HB9.out⟩
            · have HF : Hid (R = 7) := HD3.out
              as_aux_lemma =>
                go_wp2_with fail
                go_ret
                exact ⟨by rw [HF.out]; rfl, HBN.out⟩
end Go.Proofs.YtbbbaeenngjldaaGreatDoor

set_option linter.unusedVariables false
set_option linter.unusedSimpArgs false
namespace Go.Proofs.YtbbbaeenngjldaaGreatDoor
open Go.RowKit

theorem any_take {α : Type} (f : α → Bool) (d : α) (l : List α) (k : Nat) (hk : k < l.length) (h : f (l.getD k d) = true) (n : Nat) (hn : k < n) : (l.take n).any f = true := by
  rw [List.any_eq_true]
  refine ⟨l.getD k d, ?_, h⟩
  rw [List.getD_eq_getElem?_getD, List.getElem?_eq_getElem hk]
  exact List.mem_take_iff_getElem.2 ⟨k, by omega, rfl⟩
theorem not_any_take {α : Type} (f : α → Bool) (d : α) (l : List α) (n : Nat) (hn : n ≤ l.length) (h : ∀ k, k < n → f (l.getD k d) = false) : (l.take n).any f = false := by
  rw [List.any_eq_false]
  intro y hy
  obtain ⟨k, hk, rfl⟩ := List.mem_take_iff_getElem.1 hy
  have := h k (by omega)
  rw [List.getD_eq_getElem?_getD, List.getElem?_eq_getElem (by omega)] at this
  simpa using this

set_option maxRecDepth 100000 in
set_option maxHeartbeats 2000000 in
theorem checkCountry_any (w : World) (a : Option Addr) (n cap : Nat) (l : List Ctry) (hr : CtryRow w a n l) (hcap : n ≤ cap) (i : Nat) (hi : i < n) : Calls Tryz.prog 296 #[.slice a n cap, .int .i64 i] w (ErrPost (ctryErr l i) w) := by
  have hil : i < l.length := by rw [← hr.len]; exact hi
  have hfew := hr.few
  rcases hr.row with h0 | ⟨b, off, haa, hb, hcl⟩
  · omega
  subst haa
  obtain ⟨a0, a1, a2, a3⟩ := ctry_cells (hcl i hi)
  have HPV : Hid (0 < i → w.cell? ⟨b, off + (i - 1) * 4, none⟩ = some (.string ⟨(l.getD (i - 1) noCtry).code.toArray⟩)) := fun h9 => (ctry_cells (hcl (i - 1) (by omega))).1
  have HCL : Hid (∀ k, k < i → w.cell? ⟨b, off + k * 4, none⟩ = some (.string ⟨(l.getD k noCtry).code.toArray⟩) ∧ w.cell? ⟨b, off + k * 4 + 1, none⟩ = some (.string ⟨(l.getD k noCtry).abroad.toArray⟩) ∧ w.cell? ⟨b, off + k * 4 + 2, none⟩ = some (.string ⟨(l.getD k noCtry).trunk.toArray⟩) ∧ w.cell? ⟨b, off + k * 4 + 3, none⟩ = some (.slice (l.getD k noCtry).aa (l.getD k noCtry).an (l.getD k noCtry).ac)) := fun k hk => ctry_cells (hcl k (by omega))
  have HIL := Lib.hid (Nat.le_of_lt hil)
  obtain ⟨hcode, habr, htr, hmany, -, -⟩ := hr.each i hil
  have HDEF : Hid (ctryErr l i = ctryErrOf l i (l.getD i noCtry) (l.getD (i - 1) noCtry)) := rfl
  generalize ctryErr l i = R at HDEF ⊢
  generalize l.getD i noCtry = c at a0 a1 a2 a3 HDEF hcode habr htr hmany
  generalize l.getD (i - 1) noCtry = p at HPV HDEF
  obtain ⟨code, abroad, trunk, aa, an, ac, areas⟩ := c
  simp only at hcode habr htr hmany a0 a1 a2 a3
  clear hcl hil hr
  go_enter Tryz.func296, Tryz.ntmps296
  go_wp2_with fail
  refine (digitsOf_l code 1 3 _ (by omega)).mono ?_
  rintro e w2 ⟨rfl, hb2⟩
  have HB2 : Hid (Below w.heap.size w w2) := ext_trans (ext_alloc (Below.refl _ _)) hb2
  have hzz : w.heap.size < w2.heap.size := by have := hb2.size; simp at this; omega
  obtain ⟨qc, qf⟩ := bcell hb2
  have D0 : w2.cell? ⟨w.heap.size, 0, none⟩ = some (.string ⟨code.toArray⟩) := (qc _ 0 (by simp)).trans (by go_simp)
  have D1 : w2.cell? ⟨w.heap.size, 1, none⟩ = some (.string ⟨abroad.toArray⟩) := (qc _ 1 (by simp)).trans (by go_simp)
  have D2 : w2.cell? ⟨w.heap.size, 2, none⟩ = some (.string ⟨trunk.toArray⟩) := (qc _ 2 (by simp)).trans (by go_simp)
  have D3 : w2.cell? ⟨w.heap.size, 3, none⟩ = some (.slice aa an ac) := (qc _ 3 (by simp)).trans (by go_simp)
  have hzb : b < w2.heap.size := Nat.lt_of_lt_of_le hb HB2.out.size
  have HPV2 : Hid (0 < i → w2.cell? ⟨b, off + (i - 1) * 4, none⟩ = some (.string ⟨p.code.toArray⟩)) := fun h9 => (HB2.out.cell (p := ⟨b, off + (i - 1) * 4, none⟩) hb).trans (HPV.out h9)
  have HD2 : Hid (R = if digitsB code 1 3 = false then 3 else if (code.headD 0 == 48) = true then 3 else if (decide (0 < i) && leS code p.code) = true then 7 else if ((l.take i).any fun d => Lib.hasPrefix code d.code) = true then 13 else if digitsB abroad 1 4 = false then 3 else if digitsB trunk 0 2 = false then 3 else if Lib.hasPrefix trunk abroad = true then 3 else if 300 < an then 2 else 0) := HDEF.out
  have hne : digitsB code 1 3 = true → 1 ≤ code.length := by intro h; unfold digitsB at h; simp at h; omega
  clear qc qf hb2 a0 a1 a2 a3 HPV HDEF
  generalize digitsB code 1 3 = g1 at HD2 hne ⊢
  as_aux_lemma =>
    cases g1
    · have HF : Hid (R = 3) := HD2.out
      go_wp2_with fail
      go_ret
      exact ⟨by rw [HF.out]; rfl, HB2.out⟩
    · have hlen := hne rfl
      clear hne
      rcases code with _ | ⟨x, xs⟩
      · simp at hlen
      have HD3 : Hid (R = if (x == 48) = true then 3 else if (decide (0 < i) && leS (x :: xs) p.code) = true then 7 else if ((l.take i).any fun d => Lib.hasPrefix (x :: xs) d.code) = true then 13 else if digitsB abroad 1 4 = false then 3 else if digitsB trunk 0 2 = false then 3 else if Lib.hasPrefix trunk abroad = true then 3 else if 300 < an then 2 else 0) := HD2.out
      clear HD2
      have q0 : 0 < (⟨(x :: xs).toArray⟩ : ByteArray).size := by show 0 < (x :: xs).length; simp
      have y0 : ((⟨(x :: xs).toArray⟩ : ByteArray)[0]'q0).toNat = x.toNat := rfl
      by_cases hx : x = 48
      · have HF : Hid (R = 3) := by show _ = _; rw [HD3.out, hx]; rfl
        have y1 : ((⟨(x :: xs).toArray⟩ : ByteArray)[0]'q0).toNat = 48 := by rw [y0, hx]; rfl
        clear y0 hx
        as_aux_lemma =>
          go_wp2_with fail
          go_ret
          exact ⟨by rw [HF.out]; rfl, HB2.out⟩
      · have HD4 : Hid (R = if (decide (0 < i) && leS (x :: xs) p.code) = true then 7 else if ((l.take i).any fun d => Lib.hasPrefix (x :: xs) d.code) = true then 13 else if digitsB abroad 1 4 = false then 3 else if digitsB trunk 0 2 = false then 3 else if Lib.hasPrefix trunk abroad = true then 3 else if 300 < an then 2 else 0) := by show _ = _; rw [HD3.out, if_neg]; simpa using hx
        have y1 : ((((⟨(x :: xs).toArray⟩ : ByteArray)[0]'q0).toNat : Int) == 48) = false := by
          rw [y0, beq_eq_false_iff_ne]
          intro h
          exact hx (UInt8.toNat_inj.1 (by have : (48 : UInt8).toNat = 48 := rfl; omega))
        clear HD3 y0 hx
        as_aux_lemma =>
          go_upto_region 4 with (fail)
          go_cut [23] (fun s23 wx => s23 = .bool (decide (0 < i) && leS (x :: xs) p.code) ∧ Hid (wx = w2.drew))
          case first =>
            by_cases hi0 : i = 0
            · have hk1 : decide (0 < i) = false := decide_eq_false (by omega)
              clear hi0
              as_aux_lemma =>
                refine region_seqI (S := (fun _ => True)) [(true, 0), (true, 1), (true, 2), (true, 3), (true, 4), (true, 5), (true, 6), (true, 7), (true, 8), (true, 9), (true, 10), (true, 11), (true, 12), (true, 13)] (by kernel_rfl) (by kernel_rfl) rfl (by kernel_rfl) trivial ?_
                simp only [seqOps, List.getD_cons_zero, List.getD_cons_succ]
                refine seqI_take (v := .int .i64 i) rfl (fun w9 hS9 => by go_simp) (fun _ _ _ h => h) ?_
                simp only [Act.put, List.setIfInBounds_toArray, List.set_cons_zero, List.set_cons_succ]
                refine seqI_take (v := .bool false) rfl (fun w9 hS9 => by go_simp) (fun _ _ _ h => h) ?_
                simp only [Act.put, List.setIfInBounds_toArray, List.set_cons_zero, List.set_cons_succ]
                refine seqI_take (v := .bool false) rfl (fun w9 hS9 => by go_simp) (fun _ _ _ h => h) ?_
                simp only [Act.put, List.setIfInBounds_toArray, List.set_cons_zero, List.set_cons_succ]
                refine seqI_skip rfl (fun _ _ _ h => h) ?_
                simp only [Act.put, List.setIfInBounds_toArray, List.set_cons_zero, List.set_cons_succ]
                refine seqI_skip rfl (fun _ _ _ h => h) ?_
                simp only [Act.put, List.setIfInBounds_toArray, List.set_cons_zero, List.set_cons_succ]
                refine seqI_skip rfl (fun _ _ _ h => h) ?_
                simp only [Act.put, List.setIfInBounds_toArray, List.set_cons_zero, List.set_cons_succ]
                refine seqI_skip rfl (fun _ _ _ h => h) ?_
                simp only [Act.put, List.setIfInBounds_toArray, List.set_cons_zero, List.set_cons_succ]
                refine seqI_skip rfl (fun _ _ _ h => h) ?_
                simp only [Act.put, List.setIfInBounds_toArray, List.set_cons_zero, List.set_cons_succ]
                refine seqI_skip rfl (fun _ _ _ h => h) ?_
                simp only [Act.put, List.setIfInBounds_toArray, List.set_cons_zero, List.set_cons_succ]
                refine seqI_skip rfl (fun _ _ _ h => h) ?_
                simp only [Act.put, List.setIfInBounds_toArray, List.set_cons_zero, List.set_cons_succ]
                refine seqI_skip rfl (fun _ _ _ h => h) ?_
                simp only [Act.put, List.setIfInBounds_toArray, List.set_cons_zero, List.set_cons_succ]
                refine seqI_skip rfl (fun _ _ _ h => h) ?_
                simp only [Act.put, List.setIfInBounds_toArray, List.set_cons_zero, List.set_cons_succ]
                refine seqI_take (v := .bool false) rfl (fun w9 hS9 => by go_simp) (fun _ _ _ h => h) ?_
                simp only [Act.put, List.setIfInBounds_toArray, List.set_cons_zero, List.set_cons_succ]
                refine seqI_take (v := .bool false) rfl (fun w9 hS9 => by go_simp) (fun _ _ _ h => h) ?_
                simp only [Act.put, List.setIfInBounds_toArray, List.set_cons_zero, List.set_cons_succ]
                refine seqI_nil ?_
                go_wp2_with fail
                go_meet
                exact ⟨by rw [hk1]; rfl, rfl⟩
            · have hk1 : 0 < i := by omega
              have hk2 : decide (0 < i) = true := decide_eq_true hk1
              have p0 := HPV2.out hk1
              have kq : ((i : Int) - 1).toNat = i - 1 := by omega
              have kr : 0 ≤ (i : Int) - 1 := by omega
              have ks : (i : Int) - 1 < n := by omega
              have kw : IntKind.i64.wrap ((i : Int) - 1) = (i : Int) - 1 := IntWalk.i64_in _ (by omega)
              as_aux_lemma =>
                refine region_seqI (S := (fun (w9 : World) => w9.cell? ⟨w.heap.size, 0, none⟩ = some (.string ⟨(x :: xs).toArray⟩) ∧ w9.cell? ⟨b, off + (i - 1) * 4, none⟩ = some (.string ⟨p.code.toArray⟩))) [(true, 0), (true, 1), (true, 2), (true, 3), (true, 4), (true, 5), (true, 6), (true, 7), (true, 8), (true, 9), (true, 10), (true, 11), (true, 12), (true, 13)] (by kernel_rfl) (by kernel_rfl) rfl (by kernel_rfl) ⟨D0, p0⟩ ?_
                simp only [seqOps, List.getD_cons_zero, List.getD_cons_succ]
                refine seqI_take (v := .int .i64 i) rfl (fun w9 hS9 => by obtain ⟨s0, s1⟩ := hS9; go_simp) (fun _ _ _ h => h) ?_
                simp only [Act.put, List.setIfInBounds_toArray, List.set_cons_zero, List.set_cons_succ]
                refine seqI_take (v := .bool true) rfl (fun w9 hS9 => by obtain ⟨s0, s1⟩ := hS9; go_simp) (fun _ _ _ h => h) ?_
                simp only [Act.put, List.setIfInBounds_toArray, List.set_cons_zero, List.set_cons_succ]
                refine seqI_take (v := .bool true) rfl (fun w9 hS9 => by obtain ⟨s0, s1⟩ := hS9; go_simp) (fun _ _ _ h => h) ?_
                simp only [Act.put, List.setIfInBounds_toArray, List.set_cons_zero, List.set_cons_succ]
                refine seqI_take (v := .pointer (some ⟨w.heap.size, 0, none⟩)) rfl (fun w9 hS9 => by obtain ⟨s0, s1⟩ := hS9; go_simp) (fun _ _ _ h => h) ?_
                simp only [Act.put, List.setIfInBounds_toArray, List.set_cons_zero, List.set_cons_succ]
                refine seqI_take (v := .string ⟨(x :: xs).toArray⟩) rfl (fun w9 hS9 => by obtain ⟨s0, s1⟩ := hS9; go_simp) (fun _ _ _ h => h) ?_
                simp only [Act.put, List.setIfInBounds_toArray, List.set_cons_zero, List.set_cons_succ]
                refine seqI_take (v := .slice (some ⟨b, off, none⟩) n cap) rfl (fun w9 hS9 => by obtain ⟨s0, s1⟩ := hS9; go_simp) (fun _ _ _ h => h) ?_
                simp only [Act.put, List.setIfInBounds_toArray, List.set_cons_zero, List.set_cons_succ]
                refine seqI_take (v := .int .i64 i) rfl (fun w9 hS9 => by obtain ⟨s0, s1⟩ := hS9; go_simp) (fun _ _ _ h => h) ?_
                simp only [Act.put, List.setIfInBounds_toArray, List.set_cons_zero, List.set_cons_succ]
                refine seqI_take (v := .int .i64 ((i : Int) - 1)) rfl (fun w9 hS9 => by obtain ⟨s0, s1⟩ := hS9; go_simp) (fun _ _ _ h => h) ?_
                simp only [Act.put, List.setIfInBounds_toArray, List.set_cons_zero, List.set_cons_succ]
                refine seqI_take (v := .pointer (some ⟨b, off + (i - 1) * 4, none⟩)) rfl (fun w9 hS9 => by obtain ⟨s0, s1⟩ := hS9; (go_simp; intro h9; exfalso; omega)) (fun _ _ _ h => h) ?_
                simp only [Act.put, List.setIfInBounds_toArray, List.set_cons_zero, List.set_cons_succ]
                refine seqI_take (v := .pointer (some ⟨b, off + (i - 1) * 4, none⟩)) rfl (fun w9 hS9 => by obtain ⟨s0, s1⟩ := hS9; go_simp) (fun _ _ _ h => h) ?_
                simp only [Act.put, List.setIfInBounds_toArray, List.set_cons_zero, List.set_cons_succ]
                refine seqI_take (v := .string ⟨p.code.toArray⟩) rfl (fun w9 hS9 => by obtain ⟨s0, s1⟩ := hS9; go_simp) (fun _ _ _ h => h) ?_
                simp only [Act.put, List.setIfInBounds_toArray, List.set_cons_zero, List.set_cons_succ]
                refine seqI_take (v := .bool (leS (x :: xs) p.code)) rfl (fun w9 hS9 => by obtain ⟨s0, s1⟩ := hS9; (go_simp; rfl)) (fun _ _ _ h => h) ?_
                simp only [Act.put, List.setIfInBounds_toArray, List.set_cons_zero, List.set_cons_succ]
                refine seqI_take (v := .bool (leS (x :: xs) p.code)) rfl (fun w9 hS9 => by obtain ⟨s0, s1⟩ := hS9; go_simp) (fun _ _ _ h => h) ?_
                simp only [Act.put, List.setIfInBounds_toArray, List.set_cons_zero, List.set_cons_succ]
                refine seqI_take (v := .bool (leS (x :: xs) p.code)) rfl (fun w9 hS9 => by obtain ⟨s0, s1⟩ := hS9; go_simp) (fun _ _ _ h => h) ?_
                simp only [Act.put, List.setIfInBounds_toArray, List.set_cons_zero, List.set_cons_succ]
                refine seqI_nil ?_
                go_wp2_with fail
                go_meet
                exact ⟨by rw [hk2]; rfl, rfl⟩
          case rest =>
            obtain ⟨rfl, HM⟩ := hcut
            obtain ⟨W, rfl⟩ : ∃ W : World, W = wc := ⟨_, rfl⟩
            have hW := HM.out
            have HBN : Hid (Below w.heap.size w W) := by show Below _ _ _; rw [hW]; exact ext_drew HB2.out
            have hzW : w.heap.size < W.heap.size := by rw [hW]; exact hzz
            have D0' : W.cell? ⟨w.heap.size, 0, none⟩ = some (.string ⟨(x :: xs).toArray⟩) := by rw [hW]; exact D0
            have D1' : W.cell? ⟨w.heap.size, 1, none⟩ = some (.string ⟨abroad.toArray⟩) := by rw [hW]; exact D1
            have D2' : W.cell? ⟨w.heap.size, 2, none⟩ = some (.string ⟨trunk.toArray⟩) := by rw [hW]; exact D2
            have D3' : W.cell? ⟨w.heap.size, 3, none⟩ = some (.slice aa an ac) := by rw [hW]; exact D3
            clear hW HM D0 D1 D2 D3 HPV2 HB2 hzz hzb y1 q0
            generalize (decide (0 < i) && leS (x :: xs) p.code) = g4 at HD4 ⊢
            as_aux_lemma =>
              cases g4
              · have HD5 : Hid (R = if ((l.take i).any fun d => Lib.hasPrefix (x :: xs) d.code) = true then 13 else if digitsB abroad 1 4 = false then 3 else if digitsB trunk 0 2 = false then 3 else if Lib.hasPrefix trunk abroad = true then 3 else if 300 < an then 2 else 0) := HD4.out
                clear HD4
                have kc : (i : Int) ≤ cap := by omega
                as_aux_lemma =>
                  go_wp2_with fail
                  go_loopw [41] (fun it wr => ∃ k : Nat, k ≤ i ∧ it = .int .i64 k ∧ Hid (Below W.heap.size W wr) ∧ Hid (∀ j, j < k → Lib.hasPrefix (x :: xs) (l.getD j noCtry).code = false)) (fun it _ => i - (intOf it).toNat)
                  case atStart => exact ⟨0, Nat.zero_le _, rfl, Below.refl _ _, fun j hj => absurd hj (by omega)⟩
                  case round =>
                    obtain ⟨k, hk, rfl, HB, HN⟩ := hrel
                    have hzr : w.heap.size < wr.heap.size := Nat.lt_of_lt_of_le hzW HB.out.size
                    have HBR : Hid (Below w.heap.size w wr) := ext_trans HBN.out HB.out
                    have E0 := (HB.out.cell (p := ⟨w.heap.size, 0, none⟩) hzW).trans D0'
                    have E1 := (HB.out.cell (p := ⟨w.heap.size, 1, none⟩) hzW).trans D1'
                    have E2 := (HB.out.cell (p := ⟨w.heap.size, 2, none⟩) hzW).trans D2'
                    have E3 := (HB.out.cell (p := ⟨w.heap.size, 3, none⟩) hzW).trans D3'
                    by_cases hlt : k < i
                    · obtain ⟨c0, c1, c2, c3⟩ := HCL.out k hlt
                      have c0' := (HBR.out.cell (p := ⟨b, off + k * 4, none⟩) hb).trans c0
                      have c1' := (HBR.out.cell (p := ⟨b, off + k * 4 + 1, none⟩) hb).trans c1
                      have c2' := (HBR.out.cell (p := ⟨b, off + k * 4 + 2, none⟩) hb).trans c2
                      have c3' := (HBR.out.cell (p := ⟨b, off + k * 4 + 3, none⟩) hb).trans c3
                      have HAN : Hid (∀ v, Lib.hasPrefix (x :: xs) (l.getD k noCtry).code = v → v = true → R = 13) := fun v h1 h2 => by rw [HD5.out, if_pos]; exact any_take _ noCtry l k (by have := HIL.out; omega) (h1.trans h2) i hlt
                      have HST : Hid (Lib.hasPrefix (x :: xs) (l.getD k noCtry).code = false → ∀ j, j < k + 1 → Lib.hasPrefix (x :: xs) (l.getD j noCtry).code = false) := fun h9 j hj => by
                        rcases Nat.lt_or_eq_of_le (Nat.lt_succ_iff.1 hj) with h | h
                        · exact HN.out j h
                        · subst h; exact h9
                      clear c0 c1 c2 c3 D0' D1' D2' D3' E1 E2 E3
                      generalize l.getD k noCtry = d at c0' c1' c2' c3' HAN HST
                      as_aux_lemma =>
                        go_wp2_with fail
                        refine (hasPrefix_l (x :: xs) d.code _).mono ?_
                        rintro e w' ⟨rfl, rfl⟩
                        generalize Lib.hasPrefix (x :: xs) d.code = g at HAN HST ⊢
                        cases g
                        · go_wp2_with fail
                          go_roundw
                          case rel => exact ⟨k + 1, by omega, by go_num, ext_alloc HB.out, HST.out trivial⟩
                          case measure => simp [intOf]; omega
                        · have HF : Hid (R = 13) := HAN.out _ rfl rfl
                          go_wp2_with fail
                          go_ret
                          exact ⟨by rw [HF.out]; rfl, ext_alloc HBR.out⟩
                    · obtain ⟨W3, rfl⟩ : ∃ W3 : World, W3 = wr := ⟨_, rfl⟩
                      have hki : k = i := by omega
                      subst hki
                      have HD6 : Hid (R = if digitsB abroad 1 4 = false then 3 else if digitsB trunk 0 2 = false then 3 else if Lib.hasPrefix trunk abroad = true then 3 else if 300 < an then 2 else 0) := by
                        show _ = _
                        rw [HD5.out, not_any_take _ noCtry l k HIL.out HN.out]; rfl
                      clear HD5 HN HCL HIL D0' D1' D2' D3' HB E0
                      as_aux_lemma =>
                        go_wp2_with fail
                        refine (digitsOf_l abroad 1 4 _ (by omega)).mono ?_
                        rintro e W4 ⟨rfl, hb4⟩
                        have HB4 : Hid (Below w.heap.size w W4) := ext_trans HBR.out hb4
                        have hz4 : w.heap.size < W4.heap.size := Nat.lt_of_lt_of_le hzr hb4.size
                        have F1 := (hb4.cell (p := ⟨w.heap.size, 1, none⟩) hzr).trans E1
                        have F2 := (hb4.cell (p := ⟨w.heap.size, 2, none⟩) hzr).trans E2
                        have F3 := (hb4.cell (p := ⟨w.heap.size, 3, none⟩) hzr).trans E3
                        clear E1 E2 E3 hb4
                        generalize digitsB abroad 1 4 = g5 at HD6 ⊢
                        as_aux_lemma =>
                          cases g5
                          · have HF : Hid (R = 3) := HD6.out
                            go_wp2_with fail
                            go_ret
                            exact ⟨by rw [HF.out]; rfl, HB4.out⟩
                          · have HD7 : Hid (R = if digitsB trunk 0 2 = false then 3 else if Lib.hasPrefix trunk abroad = true then 3 else if 300 < an then 2 else 0) := HD6.out
                            clear HD6
                            as_aux_lemma =>
                              go_wp2_with fail
                              refine (digitsOf_l trunk 0 2 _ (by omega)).mono ?_
                              rintro e W5 ⟨rfl, hb5⟩
                              have HB5 : Hid (Below w.heap.size w W5) := ext_trans HB4.out hb5
                              have hz5 : w.heap.size < W5.heap.size := Nat.lt_of_lt_of_le hz4 hb5.size
                              have G1 := (hb5.cell (p := ⟨w.heap.size, 1, none⟩) hz4).trans F1
                              have G2 := (hb5.cell (p := ⟨w.heap.size, 2, none⟩) hz4).trans F2
                              have G3 := (hb5.cell (p := ⟨w.heap.size, 3, none⟩) hz4).trans F3
                              clear F1 F2 F3 hb5
                              generalize digitsB trunk 0 2 = g6 at HD7 ⊢
                              cases g6
                              · have HF : Hid (R = 3) := HD7.out
                                as_aux_lemma =>
                                  go_wp2_with fail
                                  go_ret
                                  exact ⟨by rw [HF.out]; rfl, HB5.out⟩
                              · have HD8 : Hid (R = if Lib.hasPrefix trunk abroad = true then 3 else if 300 < an then 2 else 0) := HD7.out
                                clear HD7
                                as_aux_lemma =>
                                  go_wp2_with fail
                                  refine (hasPrefix_l trunk abroad _).mono ?_
                                  rintro e w' ⟨rfl, rfl⟩
                                  generalize Lib.hasPrefix trunk abroad = g7 at HD8 ⊢
                                  cases g7
                                  · have HD9 : Hid (R = if 300 < an then 2 else 0) := HD8.out
                                    by_cases h3 : 300 < an
                                    · have HF : Hid (R = 2) := by show _ = _; rw [HD9.out, if_pos h3]
                                      go_wp2_with fail
                                      go_ret
                                      exact ⟨by rw [HF.out]; rfl, HB5.out⟩
                                    · have HF : Hid (R = 0) := by show _ = _; rw [HD9.out, if_neg h3]
                                      go_wp2_with fail
                                      go_ret
                                      exact ⟨by rw [HF.out]; rfl, HB5.out⟩
                                  · have HF : Hid (R = 3) := HD8.out
                                    go_wp2_with fail
                                    go_ret
                                    exact ⟨by rw [HF.out]; rfl, HB5.out⟩
              · have HF : Hid (R = 7) := HD4.out
                as_aux_lemma =>
                  go_wp2_with fail
                  go_ret
                  exact ⟨by rw [HF.out]; rfl, HBN.out⟩
end Go.Proofs.YtbbbaeenngjldaaGreatDoor

set_option linter.unusedVariables false
set_option linter.unusedSimpArgs false
namespace Go.Proofs.YtbbbaeenngjldaaGreatDoor
open Go.RowKit

set_option maxRecDepth 100000 in
set_option maxHeartbeats 2000000 in
theorem checkPlan_any (w : World) (a : Option Addr) (n cap : Nat) (l : List Ctry) (hr : CtryRow w a n l) (hcap : n ≤ cap) : Calls Tryz.prog 213 #[.slice a n cap] w (ErrPost (planErr l) w) := by
  have hfew := hr.few
  have hlen := hr.len
  have HR := Lib.hid hr
  have HDEF : Hid (planErr l = if 100 < l.length then 2 else firstErr (partErr l) l.length) := rfl
  generalize planErr l = R at HDEF ⊢
  clear hr
  by_cases h100 : 100 < n
  · have HF : Hid (R = 2) := by show _ = _; rw [HDEF.out, if_pos (by omega)]
    go_enter Tryz.func213, Tryz.ntmps213
    go_wp2_with fail
    go_ret
    exact ⟨by rw [HF.out]; rfl, Below.refl _ _⟩
  have HD : Hid (R = firstErr (partErr l) n) := by show _ = _; rw [HDEF.out, if_neg (by omega), ← hlen]
  have HLEN := Lib.hid hlen
  clear HDEF hlen
  go_enter Tryz.func213, Tryz.ntmps213
  go_wp2_with fail
  go_loopw [13] (fun it wr => ∃ k : Nat, k ≤ n ∧ it = .int .i64 k ∧ Hid (Below w.heap.size w wr) ∧ Hid (∀ j, j < k → partErr l j = 0)) (fun it _ => n - (intOf it).toNat)
  case atStart => exact ⟨0, Nat.zero_le _, rfl, Below.refl _ _, fun j hj => absurd hj (by omega)⟩
  case round =>
    obtain ⟨wo, rfl⟩ : ∃ wo : World, wo = wr := ⟨_, rfl⟩
    obtain ⟨k, hk, rfl, HB, HN⟩ := hrel
    by_cases hlt : k < n
    · have HRK := Lib.hid (HR.out.below HB.out)
      rcases HRK.out.row with h0 | ⟨b, off, rfl, hb, hcl⟩
      · omega
      obtain ⟨c0, c1, c2, c3⟩ := ctry_cells (hcl k hlt)
      have HFI := Lib.hid (HRK.out.each k (by rw [← HLEN.out]; exact hlt))
      have HPE : Hid (partErr l k = if ctryErr l k ≠ 0 then ctryErr l k else firstErr (areaErr (l.getD k noCtry)) (l.getD k noCtry).areas.length) := rfl
      have HFE : Hid (partErr l k ≠ 0 → R = partErr l k) := fun h9 => HD.out.trans (first_some HN.out hlt h9)
      have HST : Hid (partErr l k = 0 → ∀ j, j < k + 1 → partErr l j = 0) := fun h9 j hj => by
        rcases Nat.lt_or_eq_of_le (Nat.lt_succ_iff.1 hj) with h | h
        · exact HN.out j h
        · subst h; exact h9
      generalize partErr l k = PE at HPE HFE HST
      generalize hcc : l.getD k noCtry = c at c0 c1 c2 c3 HPE HFI
      have HCC := Lib.hid hcc
      clear hcc hcl
      as_aux_lemma =>
        go_wp2_with fail
        refine Calls.mono (checkCountry_any _ _ n cap l ?_ hcap k hlt) ?_
        · exact HRK.out.below (ext_alloc (Below.refl _ _))
        rintro e w1 ⟨rfl, hb1⟩
        have HB1 : Hid (Below w.heap.size w w1) := ext_trans (ext_alloc HB.out) hb1
        have hz1 : wo.heap.size < w1.heap.size := by have := hb1.size; simp at this; omega
        obtain ⟨qc, qf⟩ := bcell hb1
        have d0 : w1.cell? ⟨wo.heap.size, 0, none⟩ = some (.string ⟨c.code.toArray⟩) := (qc _ 0 (by simp)).trans (by go_simp)
        have d1 : w1.cell? ⟨wo.heap.size, 1, none⟩ = some (.string ⟨c.abroad.toArray⟩) := (qc _ 1 (by simp)).trans (by go_simp)
        have d2 : w1.cell? ⟨wo.heap.size, 2, none⟩ = some (.string ⟨c.trunk.toArray⟩) := (qc _ 2 (by simp)).trans (by go_simp)
        have d3 : w1.cell? ⟨wo.heap.size, 3, none⟩ = some (.slice c.aa c.an c.ac) := (qc _ 3 (by simp)).trans (by go_simp)
        have HF1 : Hid (CtryFine w1 c) := HFI.out.below (ext_trans (ext_alloc (Below.refl _ _)) hb1)
        generalize ctryErr l k = E1 at HPE ⊢
        clear qc qf hb1 c0 c1 c2 c3 HFI
        as_aux_lemma =>
          by_cases he : E1 = 0
          · subst he
            have HPF : Hid (PE = firstErr (areaErr c) c.an) := by show _ = _; rw [HPE.out, HF1.out.row.len]; rfl
            clear HPE
            have hmany := HF1.out.many
            as_aux_lemma =>
              go_wp2_with fail
              go_loopw [27] (fun it wq => ∃ j : Nat, j ≤ c.an ∧ it = .int .i64 j ∧ Hid (Below w1.heap.size w1 wq) ∧ Hid (∀ j9, j9 < j → areaErr c j9 = 0)) (fun it _ => c.an - (intOf it).toNat)
              case atStart => exact ⟨0, Nat.zero_le _, rfl, Below.refl _ _, fun j hj => absurd hj (by omega)⟩
              case round =>
                obtain ⟨j, hj, rfl, HBQ, HNQ⟩ := hrel
                have hzq : wo.heap.size < wr.heap.size := Nat.lt_of_lt_of_le hz1 HBQ.out.size
                have e0 := (HBQ.out.cell (p := ⟨wo.heap.size, 0, none⟩) hz1).trans d0
                have e1 := (HBQ.out.cell (p := ⟨wo.heap.size, 1, none⟩) hz1).trans d1
                have e2 := (HBQ.out.cell (p := ⟨wo.heap.size, 2, none⟩) hz1).trans d2
                have e3 := (HBQ.out.cell (p := ⟨wo.heap.size, 3, none⟩) hz1).trans d3
                clear d0 d1 d2 d3
                as_aux_lemma =>
                  by_cases hlj : j < c.an
                  · go_wp2_with fail
                    refine Calls.mono (checkArea_any _ c ?_ j hlj) ?_
                    · exact HF1.out.below HBQ.out
                    rintro e w3 ⟨rfl, hb3⟩
                    have HBQ3 := Lib.hid (ext_trans HBQ.out hb3)
                    have HFA : Hid (areaErr c j ≠ 0 → R = areaErr c j) := fun h9 => by
                      have h1 : PE = areaErr c j := HPF.out.trans (first_some HNQ.out hlj h9)
                      rw [HFE.out (by rw [h1]; exact h9), h1]
                    have HSA : Hid (areaErr c j = 0 → ∀ j9, j9 < j + 1 → areaErr c j9 = 0) := fun h9 j9 hj9 => by
                      rcases Nat.lt_or_eq_of_le (Nat.lt_succ_iff.1 hj9) with h | h
                      · exact HNQ.out j9 h
                      · subst h; exact h9
                    generalize areaErr c j = E2 at HFA HSA ⊢
                    clear e0 e1 e2 e3 hb3
                    as_aux_lemma =>
                      by_cases he2 : E2 = 0
                      · subst he2
                        go_wp2_with fail
                        go_roundw
                        case rel => exact ⟨j + 1, by omega, by go_num, HBQ3.out, HSA.out trivial⟩
                        case measure => simp [intOf]; omega
                      · have HF : Hid (R = E2) := HFA.out he2
                        go_wp2_with fail
                        go_ret
                        exact ⟨by rw [HF.out]; rfl, ext_trans HB1.out HBQ3.out⟩
                  · have hjn : j = c.an := by omega
                    have HPZ : Hid (PE = 0) := HPF.out.trans (first_none (fun j9 h9 => HNQ.out j9 (by omega)))
                    go_wp2_with fail
                    go_roundw
                    case rel => exact ⟨k + 1, by omega, by go_num, ext_trans HB1.out HBQ.out, HST.out HPZ.out⟩
                    case measure => simp [intOf]; omega
          · have HF : Hid (R = E1) := by
              show _ = _
              have h1 : PE = E1 := by rw [HPE.out, if_pos he]
              rw [HFE.out (by rw [h1]; exact he), h1]
            go_wp2_with fail
            go_ret
            exact ⟨by rw [HF.out]; rfl, HB1.out⟩
    · have hkn : k = n := by omega
      subst hkn
      have HF : Hid (R = 0) := HD.out.trans (first_none HN.out)
      go_wp2_with fail
      go_ret
      exact ⟨by rw [HF.out]; rfl, HB.out⟩
end Go.Proofs.YtbbbaeenngjldaaGreatDoor

namespace Go.Proofs.YtbbbaeenngjldaaGreatDoor
open Go.RowKit

theorem load_struct {P : Program} {w : World} {B k : Nat} (cs : List Value) (hk : cs.length = k) (hc : ∀ j v, cs[j]? = some v → w.cell? ⟨B, j, none⟩ = some v) :
    (loadCellsFrom ⟨B, 0, none⟩ 0 k #[]).run P w = .ok cs.toArray w :=
  run_loadCellsFrom_list P w ⟨B, 0, none⟩ cs k hk (fun j v hj => by
    rw [show (⟨B, 0, none⟩ : Addr).add j = ⟨B, j, none⟩ by unfold Addr.add; split <;> simp_all]; exact hc j v hj)

theorem results_cell2 {fn : Func} {t u : Tmp} {T : TypeId} (h : fn.results = #[.cell t T, .tmp u]) (P : Program) (w : World) (tmps : Array Value) {B k : Nat} (hA : ∀ w, (isAgg T).run P w = .ok true w) (hZ : ∀ w, (Go.sizeOf T).run P w = .ok k w) (ht : tmps.getD t undef = .pointer (some ⟨B, 0, none⟩)) (cs : List Value) (hk : cs.length = k) (hc : ∀ j v, cs[j]? = some v → w.cell? ⟨B, j, none⟩ = some v) :
    (results fn tmps).run P w = .ok (.tuple #[.agg cs.toArray, tmps.getD u undef]) w := by
  have h9 := load_struct (P := P) cs hk hc
  have ht' : tmps[t]?.getD undef = .pointer (some ⟨B, 0, none⟩) := by simpa using ht
  simp [results, h, ht', h9, hA, hZ, asAddr, go_sem]

theorem results_cell1 {fn : Func} {t : Tmp} {T : TypeId} (h : fn.results = #[.cell t T]) (P : Program) (w : World) (tmps : Array Value) {B k : Nat} (hA : ∀ w, (isAgg T).run P w = .ok true w) (hZ : ∀ w, (Go.sizeOf T).run P w = .ok k w) (ht : tmps.getD t undef = .pointer (some ⟨B, 0, none⟩)) (cs : List Value) (hk : cs.length = k) (hc : ∀ j v, cs[j]? = some v → w.cell? ⟨B, j, none⟩ = some v) :
    (results fn tmps).run P w = .ok (.agg cs.toArray) w := by
  have h9 := load_struct (P := P) cs hk hc
  have ht' : tmps[t]?.getD undef = .pointer (some ⟨B, 0, none⟩) := by simpa using ht
  simp [results, h, ht', h9, hA, hZ, asAddr, go_sem]

/-- Values that are stored one behind the other. -/
def setRow (w : World) (B : Nat) : Nat → List Value → World
  | _, [] => w
  | k, v :: vs => setRow (w.setCell ⟨B, k, none⟩ v) B (k + 1) vs

theorem setRow_low {B : Nat} : ∀ (vs : List Value) (w : World) (k j : Nat), j < k → (setRow w B k vs).cell? ⟨B, j, none⟩ = w.cell? ⟨B, j, none⟩
  | [], _, _, _, _ => rfl
  | v :: vs, w, k, j, h => by
    rw [setRow, setRow_low vs _ (k + 1) j (by omega)]
    exact World.cell?_setCell_other _ _ _ _ (by intro e; injection e with _ e2 _; omega)
theorem setRow_cell {B n : Nat} : ∀ (vs : List Value) (w : World) (k : Nat), (∀ j, j < n → ∃ u, w.cell? ⟨B, j, none⟩ = some u) → k + vs.length ≤ n → ∀ i v, vs[i]? = some v → (setRow w B k vs).cell? ⟨B, k + i, none⟩ = some v
  | [], _, _, _, _, _, _, h => by simp at h
  | x :: vs, w, k, hu, hn, i, v, h => by
    simp only [List.length_cons] at hn
    obtain ⟨u, hk⟩ := hu k (by omega)
    have hsame := World.cell?_setCell_same w ⟨B, k, none⟩ x hk
    cases i with
    | zero =>
      simp at h
      subst h
      rw [setRow, setRow_low vs _ (k + 1) _ (by omega)]
      exact hsame
    | succ i =>
      have := setRow_cell vs (w.setCell ⟨B, k, none⟩ x) (k + 1) (fun j hj => by
        by_cases e : j = k
        · subst e; exact ⟨x, hsame⟩
        · obtain ⟨u', hu'⟩ := hu j hj
          exact ⟨u', (World.cell?_setCell_other _ _ _ _ (by intro e9; injection e9 with _ e2 _; omega)).trans hu'⟩) (by omega) i v (by simpa using h)
      rw [setRow, show k + (i + 1) = k + 1 + i by omega]
      exact this
theorem setRow_ext {a : World} {B : Nat} (hB : a.heap.size ≤ B) : ∀ (vs : List Value) (w : World) (k : Nat), Below a.heap.size a w → Below a.heap.size a (setRow w B k vs)
  | [], _, _, h => h
  | _ :: vs, _, k, h => setRow_ext hB vs _ (k + 1) (ext_setCell h hB)
end Go.Proofs.YtbbbaeenngjldaaGreatDoor

set_option linter.unusedVariables false
set_option linter.unusedSimpArgs false
namespace Go.Proofs.YtbbbaeenngjldaaGreatDoor
open Go.RowKit

theorem extract_drop (l : List UInt8) (k : Nat) : (⟨l.toArray⟩ : ByteArray).extract k l.length = ⟨(l.drop k).toArray⟩ := by
  rw [Lib.extract_eq]
  simp [List.take_of_length_le]

theorem getD_bang {α : Type} [Inhabited α] (l : List α) (i : Nat) : l[i]! = l.getD i default := by
  rcases Nat.lt_or_ge i l.length with h | h
  · rw [getElem!_pos l i h]; simp [h]
  · rw [getElem!_neg l i (by omega)]; simp [List.getElem?_eq_none h]

theorem ctry_enc {w : World} {b off n : Nat} {l : List Ctry} (hl : n = l.length) (h : ∀ i, i < n → ∀ j, j < 4 → w.cell? ⟨b, off + i * 4 + j, none⟩ = (l.getD i noCtry).cells[j]?) : ∀ j, j < l.length → ∀ i v, (Ctry.cells l[j]!)[i]? = some v → w.cell? ⟨b, off + j * 4 + i, none⟩ = some v := by
  intro j hj i v hv
  have hi : i < 4 := by
    have := (List.getElem?_eq_some_iff.1 hv).1
    simpa [Ctry.cells] using this
  rw [h j (by omega) i hi, ← hv, getD_bang]
  rfl
theorem area_enc {w : World} {b off n : Nat} {l : List Area} (hl : n = l.length) (h : ∀ i, i < n → ∀ j, j < 3 → w.cell? ⟨b, off + i * 3 + j, none⟩ = (l.getD i noArea).cells[j]?) : ∀ j, j < l.length → ∀ i v, (Area.cells l[j]!)[i]? = some v → w.cell? ⟨b, off + j * 3 + i, none⟩ = some v := by
  intro j hj i v hv
  have hi : i < 3 := by
    have := (List.getElem?_eq_some_iff.1 hv).1
    simpa [Area.cells] using this
  rw [h j (by omega) i hi, ← hv, getD_bang]
  rfl

theorem split1_pred (n : List UInt8) (B : Nat) (w : World) (hB : B < w.heap.size) (hcell : w.cell? ⟨B, 0, none⟩ = some (.string ⟨n.toArray⟩)) (h1 : 1 ≤ n.length) (h2 : n.length ≤ 1000) :
    PredBelow Tryz.prog 214 #[.pointer (some ⟨B, 0, none⟩)] (fun x => .agg (Ctry.cells x).toArray) (fun x => Lib.hasPrefix (n.drop 1) x.code) w := fun W x hb => by
  have hc : W.cell? ⟨B, 0, none⟩ = some (.string ⟨n.toArray⟩) := (hb.cell (p := ⟨B, 0, none⟩) hB).trans hcell
  have hBW : B < W.heap.size := Nat.lt_of_lt_of_le hB hb.size
  have hne : B ≠ W.heap.size := by omega
  obtain ⟨code, abroad, trunk, aa, an, ac, areas⟩ := x
  show Calls Tryz.prog 214 #[.agg #[.string ⟨code.toArray⟩, .string ⟨abroad.toArray⟩, .string ⟨trunk.toArray⟩, .slice aa an ac], .pointer (some ⟨B, 0, none⟩)] W _
  simp only
  have hcon := hasPrefix_l (n.drop 1) code
  generalize Lib.hasPrefix (n.drop 1) code = r at hcon ⊢
  have HB := Lib.hid hb
  clear hb hcell hB
  go_enter Tryz.func214, Tryz.ntmps214
  go_wp2_with fail
  go_quiet (first | (go_at_call 121; refine Calls.quiet_of_same (v := .bool r) ((by rw [extract_drop]; exact hcon _ : Calls _ _ _ _ _).mono ?_); rintro e w' ⟨rfl, rfl⟩; exact ⟨rfl, rfl⟩))
  go_wp2_with fail
  go_ret
  exact ⟨rfl, HB.out.trans ((ext_drewN (ext_alloc (Below.refl _ _))).mono HB.out.size)⟩

theorem split2_pred (n : List UInt8) (B : Nat) (w : World) (hB : B < w.heap.size) (hcell : w.cell? ⟨B, 0, none⟩ = some (.string ⟨n.toArray⟩)) :
    PredBelow Tryz.prog 216 #[.pointer (some ⟨B, 0, none⟩)] (fun x => .agg (Area.cells x).toArray) (fun x => Lib.hasPrefix n x.pre) w := fun W x hb => by
  have hc : W.cell? ⟨B, 0, none⟩ = some (.string ⟨n.toArray⟩) := (hb.cell (p := ⟨B, 0, none⟩) hB).trans hcell
  have hBW : B < W.heap.size := Nat.lt_of_lt_of_le hB hb.size
  have hne : B ≠ W.heap.size := by omega
  obtain ⟨pre, low, high⟩ := x
  show Calls Tryz.prog 216 #[.agg #[.string ⟨pre.toArray⟩, .int .i64 low, .int .i64 high], .pointer (some ⟨B, 0, none⟩)] W _
  simp only
  have hcon := hasPrefix_l n pre
  generalize Lib.hasPrefix n pre = r at hcon ⊢
  have HB := Lib.hid hb
  clear hb hcell hB
  go_enter Tryz.func216, Tryz.ntmps216
  go_wp2_with (go_at_call 121; refine (hcon _).mono ?_; rintro e w' ⟨rfl, rfl⟩)
  go_ret
  exact ⟨rfl, HB.out.trans ((ext_alloc (Below.refl _ _)).mono HB.out.size)⟩

/-- The parts of a number, and more. -/
def SplPost (x : Spl) (w : World) (e : Ending) (w' : World) : Prop :=
  ∃ (y0 y1 y2 : ByteArray) (ya : Option Addr) (yn yc : Nat) (y4 : ByteArray) (y5 y6 : Int), e = .returned (.tuple #[.agg #[.string ⟨x.code.toArray⟩, .string ⟨x.area.toArray⟩, .string ⟨x.rest.toArray⟩, .string y0, .string y1, .string y2, .slice ya yn yc, .string y4, .int .i64 y5, .int .i64 y6], .int .i64 x.err]) ∧ Below w.heap.size w w'

theorem isNumber_l (s : List UInt8) (w : World) (hs : s.length ≤ 1000000) : Calls Tryz.prog 136 #[.string ⟨s.toArray⟩] w fun e w' => e = .returned (.bool (isNumB s)) ∧ Below w.heap.size w w' := isNumber_any ⟨s.toArray⟩ w (by show s.length ≤ _; omega)

theorem num_len {n : List UInt8} (h : isNumB n = true) : 5 ≤ n.length ∧ n.length ≤ 16 := by
  obtain ⟨d, rfl, hd⟩ := plus_head h
  unfold digitsB at hd
  simp only [Bool.and_eq_true, decide_eq_true_eq] at hd
  simp only [List.length_cons]
  omega

theorem pre_len {a b : List UInt8} (h : Lib.hasPrefix a b = true) : b.length ≤ a.length := by
  unfold Lib.hasPrefix at h
  rw [List.isPrefixOf_iff_prefix] at h
  exact h.length_le

def zeroParts : Array Value := #[.string ⟨#[]⟩, .string ⟨#[]⟩, .string ⟨#[]⟩, .string ⟨#[]⟩, .string ⟨#[]⟩, .string ⟨#[]⟩, .slice none 0 0, .string ⟨#[]⟩, .int .i64 0, .int .i64 0]

theorem zero_one : zeroParts.all (·.oneCell') = true := by simp [zeroParts, Value.oneCell']
theorem zero_size : (Tryz.prog.info? 191).map (·.size) = some zeroParts.size := by kernel_rfl
theorem there_below {w w' : World} {B o n : Nat} (h : w.there B o n) (hB : B < w.heap.size) (hb : Below w.heap.size w w') : w'.there B o n := fun j hj => by
  obtain ⟨qc, qf⟩ := bcell hb
  exact ⟨by rw [qc B _ hB]; exact (h j hj).1, by rw [qf B _ hB]; exact (h j hj).2⟩
theorem setCells_ext {a : World} {B : Nat} (hB : a.heap.size ≤ B) : ∀ (vs : List Value) (w : World) (k : Nat), Below a.heap.size a w → Below a.heap.size a (w.setCells B k vs)
  | [], _, _, h => h
  | _ :: vs, _, k, h => setCells_ext hB vs _ (k + 1) (ext_setCell h hB)

theorem build_parts (e : Operand → Value) (o : Oper) (w : World) (ho : o.op = .build 191 #[(0, .tmp 65), (1, .tmp 66), (2, .tmp 67)]) (x0 x1 x2 x3 x4 x5 : ByteArray) (x6 : Option Addr) (n c : Nat) (x7 : ByteArray) (x8 x9 : Int)
   (h65 : e (.tmp 65) = .agg #[.string x0, .string x1, .string x2]) (h66 : e (.tmp 66) = .agg #[.string x3, .string x4, .string x5, .slice x6 n c]) (h67 : e (.tmp 67) = .agg #[.string x7, .int .i64 x8, .int .i64 x9]) :
   (execOp e o).run Tryz.prog w = .ok (.value (.agg #[.string x0, .string x1, .string x2, .string x3, .string x4, .string x5, .slice x6 n c, .string x7, .int .i64 x8, .int .i64 x9])) w := by
  unfold execOp
  rw [ho]
  simp only [List.map_toArray, List.map_cons, List.map_nil, h65, h66, h67]

  kernel_rfl

set_option maxRecDepth 100000 in
set_option maxHeartbeats 2000000 in
theorem split_any (w : World) (a : Option Addr) (n cap : Nat) (l : List Ctry) (hr : CtryRow w a n l) (hne : 1 ≤ n) (hna : ∀ i, i < l.length → 1 ≤ (l.getD i noCtry).an) (s : List UInt8) (hs : s.length ≤ 1000) : Calls Tryz.prog 113 #[.slice a n cap, .string ⟨s.toArray⟩] w (SplPost (splitP l s) w) := by
  rcases hr.row with h0 | ⟨b, off, rfl, hb, hcl⟩
  · omega
  have hlen := hr.len
  have hfew := hr.few
  have HR := Lib.hid hr
  have HNA := Lib.hid hna
  have HENC := Lib.hid (ctry_enc hlen hcl)
  have HDEF : Hid (splitP l s = if isNumB s = false then noSpl 3 else splitIn l s) := rfl
  generalize splitP l s = R at HDEF ⊢
  have HLEN := Lib.hid hlen
  clear hr hna hcl hlen
  have HNL : Hid (isNumB s = true → 5 ≤ s.length ∧ s.length ≤ 16) := num_len
  go_enter Tryz.func113, Tryz.ntmps113
  go_wp2_with fail
  refine (isNumber_l s _ (by omega)).mono ?_
  rintro e w1 ⟨rfl, hb1⟩
  obtain ⟨qc, qf⟩ := bcell hb1
  have hz1 : w.heap.size + 1 < w1.heap.size := by have := hb1.size; simp at this; omega
  have hz0 : w.heap.size < w1.heap.size := by omega
  have HB1 : Hid (Below w.heap.size w w1) := ext_trans (ext_alloc (ext_alloc (Below.refl _ _))) hb1
  have c0 : w1.cell? ⟨w.heap.size, 0, none⟩ = some (.string ⟨s.toArray⟩) := (qc _ 0 (by simp; omega)).trans (by go_simp)
  have HTH : Hid (w1.there (w.heap.size + 1) 0 10) := there_below (w := (w.alloc (.cells #[.string ⟨s.toArray⟩] 9)).alloc (.cells zeroParts 191)) (fun j hj => by
    match j, hj with
    | 0, _ | 1, _ | 2, _ | 3, _ | 4, _ | 5, _ | 6, _ | 7, _ | 8, _ | 9, _ => exact ⟨by simp [zeroParts], by simp⟩) (by simp) hb1
  have HR1 := Lib.hid (HR.out.below HB1.out)
  clear qc qf hb1
  generalize isNumB s = g at HDEF HNL ⊢
  as_aux_lemma =>
    cases g
    · have HF : Hid (R = noSpl 3) := HDEF.out
      have HC9 := Lib.hid (World.rangeAt_setCells_same w1 (w.heap.size + 1) 0 zeroParts.toList HTH.out)
      have HB9 := Lib.hid (setCells_ext (B := w.heap.size + 1) (Nat.le_succ _) zeroParts.toList w1 0 HB1.out)
      as_aux_lemma =>
        go_wp2_with (refine wpList_store_mid rfl 191 (.tmp 4) (.tmp 14) rfl (w.heap.size + 1) 0 zeroParts rfl rfl HTH.out zero_size zero_one ?_; generalize World.setCells w1 (w.heap.size + 1) 0 _ = W9 at HC9 HB9 ⊢)
        (try simp only [Exit.inBlock, Exit.then])
        refine bodyPost_ret (?_ : _ = Result.ok (.tuple #[.agg zeroParts, .int .i64 3]) _) rfl ?_
        · exact results_cell2 (t := 4) (u := 5) (by rfl) _ _ _ Tryz.isAgg191 Tryz.sizeOf191 (by rfl) zeroParts.toList rfl (fun j v hj => by have := HC9.out j v hj; rw [Nat.zero_add] at this; exact this)
        exact ⟨_, _, _, _, _, _, _, _, _, by rw [HF.out]; rfl, HB9.out⟩
    · have HD : Hid (R = splitIn l s) := HDEF.out
      obtain ⟨s5, s16⟩ := HNL.out rfl
      clear HDEF HNL
      have hb1 : b < w1.heap.size := Nat.lt_of_lt_of_le hb HB1.out.size
      have hcon := Tryz.slices_idxC Ctry.cells (fun _ => rfl) (fun x => Lib.hasPrefix (s.drop 1) x.code) 214 #[.pointer (some ⟨w.heap.size, 0, none⟩)] (enters_of Tryz.func214 (by kernel_rfl) rfl) b off n cap l w1 (split1_pred s w.heap.size w1 hz0 c0 (by omega) (by omega)) (Nat.le_of_eq HLEN.out) (by omega) hb1 (fun j hj i v hv => (HB1.out.cell (p := ⟨b, off + j * 4 + i, none⟩) hb).trans (HENC.out j hj i v hv))
      rw [show l.take n = l by rw [HLEN.out, List.take_length]] at hcon
      have HIX := Lib.hid (idx_find (fun x : Ctry => Lib.hasPrefix (s.drop 1) x.code) l)
      generalize Lib.idxBy (fun _ (y : Ctry) => Lib.hasPrefix (s.drop 1) y.code) l default = r at hcon HIX
      have HCON := Lib.hid hcon
      clear hcon
      as_aux_lemma =>
        go_wp2_with fail
        refine HCON.out.mono ?_
        rintro e w2 ⟨rfl, hb2⟩
        have HB2 := Lib.hid (ext_trans HB1.out hb2)
        have HTH2 := Lib.hid (there_below HTH.out hz1 hb2)
        have hz2 : w.heap.size + 1 < w2.heap.size := Nat.lt_of_lt_of_le hz1 hb2.size
        have c02 := (hb2.cell (p := ⟨w.heap.size, 0, none⟩) hz0).trans c0
        have HR2 := Lib.hid (HR1.out.below hb2)
        clear c0 hb2 hb1
        rcases HIX.out with ⟨rfl, hf⟩ | ⟨k, hk, rfl, hf, hp⟩
        · have HF : Hid (R = noSpl 8) := by show _ = _; rw [HD.out, splitIn, hf]; rfl
          clear HIX hf HD
          have HC9 := Lib.hid (World.rangeAt_setCells_same w2 (w.heap.size + 1) 0 zeroParts.toList HTH2.out)
          have HB9 := Lib.hid (setCells_ext (B := w.heap.size + 1) (Nat.le_succ _) zeroParts.toList w2 0 HB2.out)
          as_aux_lemma =>
            go_wp2_with (refine wpList_store_mid rfl 191 (.tmp 4) (.tmp 20) rfl (w.heap.size + 1) 0 zeroParts rfl rfl HTH2.out zero_size zero_one ?_; generalize World.setCells w2 (w.heap.size + 1) 0 _ = W9 at HC9 HB9 ⊢)
            (try simp only [Exit.inBlock, Exit.then])
            refine bodyPost_ret (?_ : _ = Result.ok (.tuple #[.agg zeroParts, .int .i64 8]) _) rfl ?_
            · exact results_cell2 (t := 4) (u := 5) (by rfl) _ _ _ Tryz.isAgg191 Tryz.sizeOf191 (by rfl) zeroParts.toList rfl (fun j v hj => by have := HC9.out j v hj; rw [Nat.zero_add] at this; exact this)
            exact ⟨_, _, _, _, _, _, _, _, _, by rw [HF.out]; rfl, HB9.out⟩
        · have HD2 : Hid (R = (inAreas l[k]!.code (s.drop (1 + l[k]!.code.length)) l[k]!.areas).getD (noSpl 8)) := by show _ = _; rw [HD.out, splitIn, hf]; rfl
          have hcl := pre_len hp
          rw [getD_bang, show (default : Ctry) = noCtry from rfl] at hcl
          rw [getD_bang, show (default : Ctry) = noCtry from rfl] at HD2
          have HAN := Lib.hid (HNA.out k hk)
          rcases HR2.out.row with h0 | ⟨b9, off9, hbo, hb9, hcl9⟩
          · omega
          injection hbo with hbo
          injection hbo with e1 e2
          subst e1 e2
          obtain ⟨d0, d1, d2, d3⟩ := ctry_cells (hcl9 k (by rw [HLEN.out]; exact hk))
          have HFI := Lib.hid (HR2.out.each k hk)
          rw [List.length_drop] at hcl
          generalize l.getD k noCtry = c at d0 d1 d2 d3 HD2 hcl HAN HFI
          obtain ⟨code, abroad, trunk, aa, an, ac, areas⟩ := c
          simp only at d0 d1 d2 d3 HD2 hcl HAN
          have hco : code.length + 1 ≤ s.length := by omega
          have hkn : k < n := by rw [HLEN.out]; exact hk
          have hz20 : w.heap.size < w2.heap.size := by omega
          clear hcl9 HIX hf hp HD hcl
          rcases HFI.out.row.row with h0 | ⟨ab, ao, haa, hab, hac⟩
          · have h1 : 1 ≤ an := HAN.out
            have h2 : an = 0 := h0
            omega
          have haa' : aa = some ⟨ab, ao, none⟩ := haa
          subst haa'
          have HAL : Hid (an = areas.length) := HFI.out.row.len
          have hmany : an ≤ 1000 := HFI.out.many
          have HCA : Hid (∀ (W : World) (B : Nat), Below w2.heap.size w2 W → B < W.heap.size → W.cell? ⟨B, 0, none⟩ = some (.string ⟨(s.drop (1 + code.length)).toArray⟩) → Calls Tryz.prog 215 #[.slice (some ⟨ab, ao, none⟩) an ac, .func (.func 216) #[] #[.pointer (some ⟨B, 0, none⟩)]] W fun e w' => e = .returned (.int .i64 (Lib.idxBy (fun _ (y : Area) => Lib.hasPrefix (s.drop (1 + code.length)) y.pre) areas default)) ∧ Below W.heap.size W w') := by
            intro W B hW hB hcB
            have hcon := Tryz.slices_idxA Area.cells (fun _ => rfl) (fun x => Lib.hasPrefix (s.drop (1 + code.length)) x.pre) 216 #[.pointer (some ⟨B, 0, none⟩)] (enters_of Tryz.func216 (by kernel_rfl) rfl) ab ao an ac areas W (split2_pred _ B W hB hcB) (Nat.le_of_eq HAL.out) (by omega) (Nat.lt_of_lt_of_le hab hW.size) (fun j hj i v hv => (hW.cell (p := ⟨ab, ao + j * 3 + i, none⟩) hab).trans (area_enc HAL.out hac j hj i v hv))
            rw [show areas.take an = areas by rw [HAL.out, List.take_length]] at hcon
            exact hcon
          have HIX := Lib.hid (idx_find (fun x : Area => Lib.hasPrefix (s.drop (1 + code.length)) x.pre) areas)
          generalize Lib.idxBy (fun _ (y : Area) => Lib.hasPrefix (s.drop (1 + code.length)) y.pre) areas default = r at HCA HIX
          have HAC := Lib.hid hac
          clear hac haa
          as_aux_lemma =>
            go_wp2_with fail
            rw [extract_drop]
            have hnl : (s.drop (1 + code.length)).length ≤ 16 := by rw [List.length_drop]; omega
            generalize s.drop (1 + code.length) = nat at HCA HIX HD2 hnl ⊢
            refine (HCA.out _ _ (ext_alloc (ext_alloc (Below.refl _ _))) (by simp) (by go_simp)).mono ?_
            rintro e w3 ⟨rfl, hb3⟩
            obtain ⟨qc, qf⟩ := bcell hb3
            have hz3 : w2.heap.size + 1 < w3.heap.size := by have := hb3.size; simp at this; omega
            have HB23 : Hid (Below w2.heap.size w2 w3) := ext_trans (ext_alloc (ext_alloc (Below.refl _ _))) hb3
            have HB3 := Lib.hid (ext_trans HB2.out HB23.out)
            have HTH3 := Lib.hid (there_below HTH2.out hz2 HB23.out)
            have e0 : w3.cell? ⟨w2.heap.size, 0, none⟩ = some (.string ⟨code.toArray⟩) := (qc _ 0 (by simp; omega)).trans (by go_simp)
            have e1 : w3.cell? ⟨w2.heap.size, 1, none⟩ = some (.string ⟨abroad.toArray⟩) := (qc _ 1 (by simp; omega)).trans (by go_simp)
            have e2 : w3.cell? ⟨w2.heap.size, 2, none⟩ = some (.string ⟨trunk.toArray⟩) := (qc _ 2 (by simp; omega)).trans (by go_simp)
            have e3 : w3.cell? ⟨w2.heap.size, 3, none⟩ = some (.slice (some ⟨ab, ao, none⟩) an ac) := (qc _ 3 (by simp; omega)).trans (by go_simp)
            have n0 : w3.cell? ⟨w2.heap.size + 1, 0, none⟩ = some (.string ⟨nat.toArray⟩) := (qc _ 0 (by simp)).trans (by go_simp)
            clear qc qf hb3 c02 d0 d1 d2 d3
            rcases HIX.out with ⟨rfl, hf⟩ | ⟨i, hi, rfl, hf, hp⟩
            · have HF : Hid (R = noSpl 8) := by show _ = _; rw [HD2.out, inAreas, hf]; rfl
              clear HIX hf HD2
              have HC9 := Lib.hid (World.rangeAt_setCells_same w3 (w.heap.size + 1) 0 zeroParts.toList HTH3.out)
              have HB9 := Lib.hid (setCells_ext (B := w.heap.size + 1) (Nat.le_succ _) zeroParts.toList w3 0 HB3.out)
              as_aux_lemma =>
                go_wp2_with (refine wpList_store_mid rfl 191 (.tmp 4) (.tmp 37) rfl (w.heap.size + 1) 0 zeroParts rfl rfl HTH3.out zero_size zero_one ?_; generalize World.setCells w3 (w.heap.size + 1) 0 _ = W9 at HC9 HB9 ⊢)
                (try simp only [Exit.inBlock, Exit.then])
                refine bodyPost_ret (?_ : _ = Result.ok (.tuple #[.agg zeroParts, .int .i64 8]) _) rfl ?_
                · exact results_cell2 (t := 4) (u := 5) (by rfl) _ _ _ Tryz.isAgg191 Tryz.sizeOf191 (by rfl) zeroParts.toList rfl (fun j v hj => by have := HC9.out j v hj; rw [Nat.zero_add] at this; exact this)
                exact ⟨_, _, _, _, _, _, _, _, _, by rw [HF.out]; rfl, HB9.out⟩
            · have HD3 : Hid (R = inArea code nat areas[i]!) := by show _ = _; rw [HD2.out, inAreas, hf]; rfl
              have hcl := pre_len hp
              rw [getD_bang, show (default : Area) = noArea from rfl] at hcl HD3
              have hin : i < an := by rw [HAL.out]; exact hi
              have hA := area_cells (fun j hj => (HB23.out.cell (p := ⟨ab, ao + i * 3 + j, none⟩) hab).trans (HAC.out i hin j hj))
              have HAF := Lib.hid (HFI.out.each i hi)
              simp only at HAF
              clear HIX hf HD2 hp
              generalize areas.getD i noArea = x at hA hcl HD3 HAF
              obtain ⟨pre, low, high⟩ := x
              simp only at hA hcl HD3
              obtain ⟨a0, a1, a2⟩ := hA
              have hz23 : w2.heap.size < w3.heap.size := by omega
              have HB4 : Hid (Below w.heap.size w (w3.alloc (.cells #[.string ⟨pre.toArray⟩, .int .i64 low, .int .i64 high] 182))) := ext_alloc HB3.out
              have HTH4 : Hid ((w3.alloc (.cells #[.string ⟨pre.toArray⟩, .int .i64 low, .int .i64 high] 182)).there (w.heap.size + 1) 0 10) := there_below HTH3.out (by omega) (ext_alloc (Below.refl _ _))
              as_aux_lemma =>
                by_cases k1 : (nat.length : Int) < low
                · have HF : Hid (R = noSpl 1) := by show _ = _; rw [HD3.out, inArea, if_pos]; simp [k1]
                  clear HD3
                  have HC9 := Lib.hid (World.rangeAt_setCells_same (w3.alloc (.cells #[.string ⟨pre.toArray⟩, .int .i64 low, .int .i64 high] 182)) (w.heap.size + 1) 0 zeroParts.toList HTH4.out)
                  have HB9 := Lib.hid (setCells_ext (B := w.heap.size + 1) (Nat.le_succ _) zeroParts.toList (w3.alloc (.cells #[.string ⟨pre.toArray⟩, .int .i64 low, .int .i64 high] 182)) 0 HB4.out)
                  as_aux_lemma =>
                    go_wp2_with (refine wpList_store_mid rfl 191 (.tmp 4) (.tmp 55) rfl (w.heap.size + 1) 0 zeroParts rfl rfl HTH4.out zero_size zero_one ?_; generalize World.setCells (w3.alloc (.cells #[.string ⟨pre.toArray⟩, .int .i64 low, .int .i64 high] 182)) (w.heap.size + 1) 0 _ = W9 at HC9 HB9 ⊢)
                    (try simp only [Exit.inBlock, Exit.then])
                    refine bodyPost_ret (?_ : _ = Result.ok (.tuple #[.agg zeroParts, .int .i64 1]) _) rfl ?_
                    · exact results_cell2 (t := 4) (u := 5) (by rfl) _ _ _ Tryz.isAgg191 Tryz.sizeOf191 (by rfl) zeroParts.toList rfl (fun j v hj => by have := HC9.out j v hj; rw [Nat.zero_add] at this; exact this)
                    exact ⟨_, _, _, _, _, _, _, _, _, by rw [HF.out]; rfl, HB9.out⟩
                · by_cases k2 : high < (nat.length : Int)
                  · have HF : Hid (R = noSpl 1) := by show _ = _; rw [HD3.out, inArea, if_pos]; simp [k2]
                    clear HD3
                    have HC9 := Lib.hid (World.rangeAt_setCells_same (w3.alloc (.cells #[.string ⟨pre.toArray⟩, .int .i64 low, .int .i64 high] 182)) (w.heap.size + 1) 0 zeroParts.toList HTH4.out)
                    have HB9 := Lib.hid (setCells_ext (B := w.heap.size + 1) (Nat.le_succ _) zeroParts.toList (w3.alloc (.cells #[.string ⟨pre.toArray⟩, .int .i64 low, .int .i64 high] 182)) 0 HB4.out)
                    as_aux_lemma =>
                      go_wp2_with (refine wpList_store_mid rfl 191 (.tmp 4) (.tmp 55) rfl (w.heap.size + 1) 0 zeroParts rfl rfl HTH4.out zero_size zero_one ?_; generalize World.setCells (w3.alloc (.cells #[.string ⟨pre.toArray⟩, .int .i64 low, .int .i64 high] 182)) (w.heap.size + 1) 0 _ = W9 at HC9 HB9 ⊢)
                      (try simp only [Exit.inBlock, Exit.then])
                      refine bodyPost_ret (?_ : _ = Result.ok (.tuple #[.agg zeroParts, .int .i64 1]) _) rfl ?_
                      · exact results_cell2 (t := 4) (u := 5) (by rfl) _ _ _ Tryz.isAgg191 Tryz.sizeOf191 (by rfl) zeroParts.toList rfl (fun j v hj => by have := HC9.out j v hj; rw [Nat.zero_add] at this; exact this)
                      exact ⟨_, _, _, _, _, _, _, _, _, by rw [HF.out]; rfl, HB9.out⟩
                  · have HF : Hid (R = ⟨0, code, pre, nat.drop pre.length⟩) := by show _ = _; rw [HD3.out, inArea, if_neg]; simp [k1, k2]
                    clear HD3
                    go_upto_region 14 with (fail)
                    have f0 : (w3.alloc (.cells #[.string ⟨pre.toArray⟩, .int .i64 low, .int .i64 high] 182)).cell? ⟨w2.heap.size, 0, none⟩ = some (.string ⟨code.toArray⟩) := by go_simp
                    have f1 : (w3.alloc (.cells #[.string ⟨pre.toArray⟩, .int .i64 low, .int .i64 high] 182)).cell? ⟨w2.heap.size, 1, none⟩ = some (.string ⟨abroad.toArray⟩) := by go_simp
                    have f2 : (w3.alloc (.cells #[.string ⟨pre.toArray⟩, .int .i64 low, .int .i64 high] 182)).cell? ⟨w2.heap.size, 2, none⟩ = some (.string ⟨trunk.toArray⟩) := by go_simp
                    have f3 : (w3.alloc (.cells #[.string ⟨pre.toArray⟩, .int .i64 low, .int .i64 high] 182)).cell? ⟨w2.heap.size, 3, none⟩ = some (.slice (some ⟨ab, ao, none⟩) an ac) := by go_simp
                    have g0 : (w3.alloc (.cells #[.string ⟨pre.toArray⟩, .int .i64 low, .int .i64 high] 182)).cell? ⟨w2.heap.size + 1, 0, none⟩ = some (.string ⟨nat.toArray⟩) := by go_simp
                    have b0 : (w3.alloc (.cells #[.string ⟨pre.toArray⟩, .int .i64 low, .int .i64 high] 182)).cell? ⟨w3.heap.size, 0, none⟩ = some (.string ⟨pre.toArray⟩) := by go_simp
                    have b1 : (w3.alloc (.cells #[.string ⟨pre.toArray⟩, .int .i64 low, .int .i64 high] 182)).cell? ⟨w3.heap.size, 1, none⟩ = some (.int .i64 low) := by go_simp
                    have b2 : (w3.alloc (.cells #[.string ⟨pre.toArray⟩, .int .i64 low, .int .i64 high] 182)).cell? ⟨w3.heap.size, 2, none⟩ = some (.int .i64 high) := by go_simp
                    generalize w3.alloc (.cells #[.string ⟨pre.toArray⟩, .int .i64 low, .int .i64 high] 182) = W4 at f0 f1 f2 f3 g0 b0 b1 b2 HB4 HTH4 ⊢
                    have HFA : Hid ((fun (w9 : World) => (w9.cell? ⟨w2.heap.size, 0, none⟩ = some (.string ⟨code.toArray⟩) ∧ w9.cell? ⟨w2.heap.size, 1, none⟩ = some (.string ⟨abroad.toArray⟩) ∧ w9.cell? ⟨w2.heap.size, 2, none⟩ = some (.string ⟨trunk.toArray⟩) ∧ w9.cell? ⟨w2.heap.size, 3, none⟩ = some (.slice (some ⟨ab, ao, none⟩) an ac)) ∧ w9.cell? ⟨w2.heap.size + 1, 0, none⟩ = some (.string ⟨nat.toArray⟩) ∧ w9.cell? ⟨w3.heap.size, 0, none⟩ = some (.string ⟨pre.toArray⟩) ∧ w9.cell? ⟨w3.heap.size, 1, none⟩ = some (.int .i64 low) ∧ w9.cell? ⟨w3.heap.size, 2, none⟩ = some (.int .i64 high)) W4) := ⟨⟨f0, f1, f2, f3⟩, g0, b0, b1, b2⟩
                    have hpn : pre.length ≤ nat.length := hcl
                    clear e0 e1 e2 e3 n0 a0 a1 a2 f0 f1 f2 f3 g0 b0 b1 b2
                    as_aux_lemma =>
                      refine region_seqI (S := (fun (w9 : World) => (w9.cell? ⟨w2.heap.size, 0, none⟩ = some (.string ⟨code.toArray⟩) ∧ w9.cell? ⟨w2.heap.size, 1, none⟩ = some (.string ⟨abroad.toArray⟩) ∧ w9.cell? ⟨w2.heap.size, 2, none⟩ = some (.string ⟨trunk.toArray⟩) ∧ w9.cell? ⟨w2.heap.size, 3, none⟩ = some (.slice (some ⟨ab, ao, none⟩) an ac)) ∧ w9.cell? ⟨w2.heap.size + 1, 0, none⟩ = some (.string ⟨nat.toArray⟩) ∧ w9.cell? ⟨w3.heap.size, 0, none⟩ = some (.string ⟨pre.toArray⟩) ∧ w9.cell? ⟨w3.heap.size, 1, none⟩ = some (.int .i64 low) ∧ w9.cell? ⟨w3.heap.size, 2, none⟩ = some (.int .i64 high))) [(true, 0), (true, 1), (true, 2), (true, 3), (true, 4), (true, 5), (true, 6), (true, 7), (true, 8), (true, 9), (true, 10), (true, 11), (true, 12), (false, 13), (true, 14)] (by kernel_rfl) (by kernel_rfl) rfl (by kernel_rfl) HFA.out ?_
                      simp only [seqOps, List.getD_cons_zero, List.getD_cons_succ]
                      refine seqI_take (v := .pointer (some ⟨w2.heap.size, 0, none⟩)) rfl (fun w9 hS9 => by obtain ⟨⟨s0, s1, s2, s3⟩, s4, s5, s6, s7⟩ := hS9; go_simp) (fun _ _ _ h => h) ?_
                      simp only [Act.put, List.setIfInBounds_toArray, List.set_cons_zero, List.set_cons_succ]
                      refine seqI_take (v := .string ⟨code.toArray⟩) rfl (fun w9 hS9 => by obtain ⟨⟨s0, s1, s2, s3⟩, s4, s5, s6, s7⟩ := hS9; go_simp) (fun _ _ _ h => h) ?_
                      simp only [Act.put, List.setIfInBounds_toArray, List.set_cons_zero, List.set_cons_succ]
                      refine seqI_take (v := .pointer (some ⟨w3.heap.size, 0, none⟩)) rfl (fun w9 hS9 => by obtain ⟨⟨s0, s1, s2, s3⟩, s4, s5, s6, s7⟩ := hS9; go_simp) (fun _ _ _ h => h) ?_
                      simp only [Act.put, List.setIfInBounds_toArray, List.set_cons_zero, List.set_cons_succ]
                      refine seqI_take (v := .string ⟨pre.toArray⟩) rfl (fun w9 hS9 => by obtain ⟨⟨s0, s1, s2, s3⟩, s4, s5, s6, s7⟩ := hS9; go_simp) (fun _ _ _ h => h) ?_
                      simp only [Act.put, List.setIfInBounds_toArray, List.set_cons_zero, List.set_cons_succ]
                      refine seqI_take (v := .string ⟨nat.toArray⟩) rfl (fun w9 hS9 => by obtain ⟨⟨s0, s1, s2, s3⟩, s4, s5, s6, s7⟩ := hS9; go_simp) (fun _ _ _ h => h) ?_
                      simp only [Act.put, List.setIfInBounds_toArray, List.set_cons_zero, List.set_cons_succ]
                      refine seqI_take (v := .pointer (some ⟨w3.heap.size, 0, none⟩)) rfl (fun w9 hS9 => by obtain ⟨⟨s0, s1, s2, s3⟩, s4, s5, s6, s7⟩ := hS9; go_simp) (fun _ _ _ h => h) ?_
                      simp only [Act.put, List.setIfInBounds_toArray, List.set_cons_zero, List.set_cons_succ]
                      refine seqI_take (v := .string ⟨pre.toArray⟩) rfl (fun w9 hS9 => by obtain ⟨⟨s0, s1, s2, s3⟩, s4, s5, s6, s7⟩ := hS9; go_simp) (fun _ _ _ h => h) ?_
                      simp only [Act.put, List.setIfInBounds_toArray, List.set_cons_zero, List.set_cons_succ]
                      refine seqI_take (v := .int .i64 pre.length) rfl (fun w9 hS9 => by obtain ⟨⟨s0, s1, s2, s3⟩, s4, s5, s6, s7⟩ := hS9; go_simp) (fun _ _ _ h => h) ?_
                      simp only [Act.put, List.setIfInBounds_toArray, List.set_cons_zero, List.set_cons_succ]
                      refine seqI_take (v := .string ((⟨nat.toArray⟩ : ByteArray).extract pre.length nat.length)) rfl (fun w9 hS9 => by obtain ⟨⟨s0, s1, s2, s3⟩, s4, s5, s6, s7⟩ := hS9; go_simp) (fun _ _ _ h => h) ?_
                      simp only [Act.put, List.setIfInBounds_toArray, List.set_cons_zero, List.set_cons_succ]
                      generalize hrs : (⟨nat.toArray⟩ : ByteArray).extract pre.length nat.length = rs
                      have HRS := Lib.hid hrs
                      clear hrs
                      refine seqI_take (v := .agg #[.string ⟨code.toArray⟩, .string ⟨pre.toArray⟩, .string rs]) rfl (fun w9 hS9 => by obtain ⟨⟨s0, s1, s2, s3⟩, s4, s5, s6, s7⟩ := hS9; go_simp) (fun _ _ _ h => h) ?_
                      simp only [Act.put, List.setIfInBounds_toArray, List.set_cons_zero, List.set_cons_succ]
                      refine seqI_take (v := .agg #[.string ⟨code.toArray⟩, .string ⟨abroad.toArray⟩, .string ⟨trunk.toArray⟩, .slice (some ⟨ab, ao, none⟩) an ac]) rfl (fun w9 hS9 => by obtain ⟨⟨s0, s1, s2, s3⟩, s4, s5, s6, s7⟩ := hS9; go_simp) (fun _ _ _ h => h) ?_
                      simp only [Act.put, List.setIfInBounds_toArray, List.set_cons_zero, List.set_cons_succ]
                      refine seqI_take (v := .agg #[.string ⟨pre.toArray⟩, .int .i64 low, .int .i64 high]) rfl (fun w9 hS9 => by obtain ⟨⟨s0, s1, s2, s3⟩, s4, s5, s6, s7⟩ := hS9; go_simp) (fun _ _ _ h => h) ?_
                      simp only [Act.put, List.setIfInBounds_toArray, List.set_cons_zero, List.set_cons_succ]
                      refine seqI_take (v := .agg #[.string ⟨code.toArray⟩, .string ⟨pre.toArray⟩, .string rs, .string ⟨code.toArray⟩, .string ⟨abroad.toArray⟩, .string ⟨trunk.toArray⟩, .slice (some ⟨ab, ao, none⟩) an ac, .string ⟨pre.toArray⟩, .int .i64 low, .int .i64 high]) rfl (fun w9 hS9 => build_parts _ _ w9 rfl _ _ _ _ _ _ _ _ _ _ _ _ rfl rfl rfl) (fun _ _ _ h => h) ?_
                      simp only [Act.put, List.setIfInBounds_toArray, List.set_cons_zero, List.set_cons_succ]
                      obtain ⟨F, hF9⟩ : ∃ F : List Value, F = [.string ⟨code.toArray⟩, .string ⟨pre.toArray⟩, .string rs, .string ⟨code.toArray⟩, .string ⟨abroad.toArray⟩, .string ⟨trunk.toArray⟩, .slice (some ⟨ab, ao, none⟩) an ac, .string ⟨pre.toArray⟩, .int .i64 low, .int .i64 high] := ⟨_, rfl⟩
                      have HFF := Lib.hid hF9
                      have HTF : Hid (W4.drew.there (w.heap.size + 1) 0 F.toArray.size) := by rw [hF9]; exact HTH4.out
                      have HON : Hid (F.toArray.all (·.oneCell') = true) := by show _ = _; rw [hF9]; simp [Value.oneCell']
                      have HSZ : Hid ((Tryz.prog.info? 191).map (·.size) = some F.toArray.size) := by rw [hF9]; exact zero_size
                      clear hF9
                      have HC9 := Lib.hid (World.rangeAt_setCells_same W4.drew (w.heap.size + 1) 0 F HTF.out)
                      have HB9 := Lib.hid (setCells_ext (B := w.heap.size + 1) (Nat.le_succ _) F W4.drew 0 (ext_drew HB4.out))
                      have HS9 : Hid ((fun (w9 : World) => (w9.cell? ⟨w2.heap.size, 0, none⟩ = some (.string ⟨code.toArray⟩) ∧ w9.cell? ⟨w2.heap.size, 1, none⟩ = some (.string ⟨abroad.toArray⟩) ∧ w9.cell? ⟨w2.heap.size, 2, none⟩ = some (.string ⟨trunk.toArray⟩) ∧ w9.cell? ⟨w2.heap.size, 3, none⟩ = some (.slice (some ⟨ab, ao, none⟩) an ac)) ∧ w9.cell? ⟨w2.heap.size + 1, 0, none⟩ = some (.string ⟨nat.toArray⟩) ∧ w9.cell? ⟨w3.heap.size, 0, none⟩ = some (.string ⟨pre.toArray⟩) ∧ w9.cell? ⟨w3.heap.size, 1, none⟩ = some (.int .i64 low) ∧ w9.cell? ⟨w3.heap.size, 2, none⟩ = some (.int .i64 high)) (W4.drew.setCells (w.heap.size + 1) 0 F)) := by
                        obtain ⟨⟨f0, f1, f2, f3⟩, g0, b0, b1, b2⟩ := HFA.out
                        have out : ∀ (B o : Nat), B ≠ w.heap.size + 1 → (W4.drew.setCells (w.heap.size + 1) 0 F).cell? ⟨B, o, none⟩ = W4.cell? ⟨B, o, none⟩ := fun B o hB => World.cell?_setCells_out _ _ _ _ _ (fun h1 _ => absurd h1 hB)
                        exact ⟨⟨(out _ _ (by omega)).trans f0, (out _ _ (by omega)).trans f1, (out _ _ (by omega)).trans f2, (out _ _ (by omega)).trans f3⟩, (out _ _ (by omega)).trans g0, (out _ _ (by omega)).trans b0, (out _ _ (by omega)).trans b1, (out _ _ (by omega)).trans b2⟩
                      refine seqI_do rfl (wp_store_mid 191 (.tmp 4) (.tmp 68) rfl (w.heap.size + 1) 0 F.toArray rfl (by rw [HFF.out]; rfl) HTF.out HSZ.out HON.out ⟨HS9.out, ?_⟩)
                      simp only [List.toList_toArray]
                      generalize World.setCells W4.drew (w.heap.size + 1) 0 F = W9 at HC9 HB9 HS9 ⊢
                      simp only [Act.put, List.setIfInBounds_toArray, List.set_cons_zero, List.set_cons_succ]
                      refine seqI_take (v := .int .i64 0) rfl (fun w9 hS9 => by go_simp) (fun _ _ _ h => h) ?_
                      simp only [Act.put, List.setIfInBounds_toArray, List.set_cons_zero, List.set_cons_succ]
                      refine seqI_nil ?_
                      clear HFA HTF HON HSZ HS9 HTH4
                      go_wp2_with fail
                      (try simp only [Exit.inBlock, Exit.then])
                      refine bodyPost_ret (?_ : _ = Result.ok (.tuple #[.agg F.toArray, .int .i64 0]) _) rfl ?_
                      · exact results_cell2 (t := 4) (u := 5) (by rfl) _ _ _ Tryz.isAgg191 Tryz.sizeOf191 (by rfl) F (by rw [HFF.out]; rfl) (fun j v hj => by have := HC9.out j v hj; rw [Nat.zero_add] at this; exact this)
                      exact ⟨_, _, _, _, _, _, _, _, _, by rw [HF.out, HFF.out, ← HRS.out, extract_drop], HB9.out⟩
end Go.Proofs.YtbbbaeenngjldaaGreatDoor

set_option linter.unusedVariables false
set_option linter.unusedSimpArgs false
namespace Go.Proofs.YtbbbaeenngjldaaGreatDoor
open Go.RowKit

theorem digits_len {s : List UInt8} {lo hi : Int} (h : digitsB s lo hi = true) : (s.length : Int) ≤ hi := by
  unfold digitsB at h
  simp only [Bool.and_eq_true, decide_eq_true_eq] at h
  omega
theorem trim_drop {s p : List UInt8} (h : Lib.hasPrefix s p = true) : Lib.trimPrefix s p = s.drop p.length := by unfold Lib.trimPrefix; rw [if_pos h]

def strSz : Value → Nat
  | .string b => b.size
  | _ => 0
theorem strSz_l (l : List UInt8) : strSz (.string ⟨l.toArray⟩) = l.length := rfl
theorem ext_take (l : List UInt8) (k : Nat) : (⟨l.toArray⟩ : ByteArray).extract 0 k = ⟨(l.take k).toArray⟩ := by
  rw [Lib.extract_eq]
  simp

end Go.Proofs.YtbbbaeenngjldaaGreatDoor
