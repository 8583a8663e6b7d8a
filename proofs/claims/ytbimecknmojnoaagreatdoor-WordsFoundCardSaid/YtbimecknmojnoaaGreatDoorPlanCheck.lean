/- What is proved here: what checkArea, checkCountry and CheckPlan of package number answer. Condition: the plan lies in memory as stated. -/
import Derived.Test.YtbimecknmojnoaaGreatDoorPlanMath
import Derived.Test.YtbimecknmojnoaaGreatDoorShelfNum
import Derived.Test.YtbimecknmojnoaaGreatDoorRegionSeq
import Derived.BigRegion
import Derived.IntWalk
import Derived.Deep.DeepCutAuto
set_option linter.unusedVariables false
set_option linter.unusedSimpArgs false
namespace Go.Proofs.YtbimecknmojnoaaGreatDoor
open Go.RowKit

def boxC (x : Ctry) : Obj := .cells x.cells.toArray 153
theorem hasPrefix_any (s p : ByteArray) (w : World) : Calls Tryz.prog 75 #[.string s, .string p] w fun e w' => e = .returned (.bool (Lib.hasPrefix s.data.toList p.data.toList)) ∧ w = w' := (Tryz.strings_HasPrefix s p w).mono (fun e w' h => ⟨h.1, h.2.symm⟩)
theorem hasPrefix_l (s p : List UInt8) (w : World) : Calls Tryz.prog 75 #[.string ⟨s.toArray⟩, .string ⟨p.toArray⟩] w fun e w' => e = .returned (.bool (Lib.hasPrefix s p)) ∧ w = w' := hasPrefix_any ⟨s.toArray⟩ ⟨p.toArray⟩ w
theorem digitsOf_l (s : List UInt8) (lo hi : Int) (w : World) (hs : s.length ≤ 1000000) : Calls Tryz.prog 72 #[.string ⟨s.toArray⟩, .int .i64 lo, .int .i64 hi] w fun e w' => e = .returned (.bool (digitsB s lo hi)) ∧ Below w.heap.size w w' := digitsOf_any ⟨s.toArray⟩ lo hi w (by show s.length ≤ _; omega)

theorem cat_str (x y : List UInt8) : ((⟨x.toArray⟩ : ByteArray) ++ ⟨y.toArray⟩) = ⟨(x ++ y).toArray⟩ := by
  apply ByteArray.ext
  simp
def ErrPost (x : Int) (w : World) (e : Ending) (w' : World) : Prop := e = .returned (.int .i64 x) ∧ Below w.heap.size w w'

set_option maxRecDepth 100000 in
set_option maxHeartbeats 2000000 in
theorem checkArea_any (w : World) (c : Ctry) (hc : CtryFine w c) (i : Nat) (hi : i < c.an) : Calls Tryz.prog 212 #[c.val, .int .i64 i] w (ErrPost (areaErr c i) w) := by
  have hil : i < c.areas.length := by rw [← hc.row.len]; exact hi
  have hfine := hc.each i hil
  have hmany := hc.many
  rcases hc.row.row with h0 | ⟨b, off, haa, hb, hcl⟩
  · omega
  obtain ⟨a0, a1, a2⟩ := area_cells (hcl i hi)
  have HPV : Hid (0 < i → w.cell? ⟨b, off + (i - 1) * 3, none⟩ = some (.string ⟨(prevArea c i).pre.toArray⟩)) := fun h9 => (area_cells (hcl (i - 1) (by omega))).1
  have hcode := hc.code
  have habr := hc.abroad
  have htr := hc.trunk
  have HDEF : Hid (areaErr c i = areaErrOf c i (c.areas.getD i noArea) (prevArea c i)) := rfl
  obtain ⟨f1, f2, f3, f4, f5⟩ := hfine
  generalize areaErr c i = R at HDEF ⊢
  generalize c.areas.getD i noArea = x at a0 a1 a2 HDEF f1 f2 f3 f4 f5
  generalize prevArea c i = p at HPV HDEF
  obtain ⟨code, abroad, trunk, aa, an, ac, areas⟩ := c
  obtain ⟨pre, low, high⟩ := x
  simp only at haa hi hcode habr htr hmany a0 a1 a2 f1 f2 f3 f4 f5
  subst haa
  clear hcl hil hc
  unfold Ctry.val Ctry.cells
  simp only
  go_enter Tryz.func212, Tryz.ntmps212
  go_upto_region 1 with (fail)
  have HCF := Lib.hid hcode
  go_region
  rw [cat_str]
  generalize hW0 : World.drew _ = W1
  have hW := Lib.hid hW0
  clear hW0
  have hBW : Below w.heap.size w W1 := by rw [← hW.out]; exact ext_drew (ext_alloc (ext_alloc (Below.refl _ _)))
  have hzz : W1.heap.size = w.heap.size + 2 := by rw [← hW.out]; simp
  have d0 : W1.cell? ⟨w.heap.size, 0, none⟩ = some (.string ⟨code.toArray⟩) := by rw [← hW.out]; go_simp
  have d1 : W1.cell? ⟨w.heap.size, 1, none⟩ = some (.string ⟨abroad.toArray⟩) := by rw [← hW.out]; go_simp
  have d3 : W1.cell? ⟨w.heap.size, 3, none⟩ = some (.slice (some ⟨b, off, none⟩) an ac) := by rw [← hW.out]; go_simp
  have e0 : W1.cell? ⟨w.heap.size + 1, 0, none⟩ = some (.string ⟨pre.toArray⟩) := by rw [← hW.out]; go_simp
  have e1 : W1.cell? ⟨w.heap.size + 1, 1, none⟩ = some (.int .i64 low) := by rw [← hW.out]; go_simp
  have e2 : W1.cell? ⟨w.heap.size + 1, 2, none⟩ = some (.int .i64 high) := by rw [← hW.out]; go_simp
  have HB1 := Lib.hid hBW
  have hz1 : w.heap.size + 1 < W1.heap.size := by omega
  have hz0 : w.heap.size < W1.heap.size := by omega
  clear hW hBW hzz a0 a1 a2
  as_aux_lemma =>
    go_wp2_with fail
    refine (digitsOf_l pre 1 8 _ (by omega)).mono ?_
    rintro e w2 ⟨rfl, hb2⟩
    have HB2 := Lib.hid (ext_trans HB1.out hb2)
    obtain ⟨qc, qf⟩ := bcell hb2
    have D0 := (qc _ 0 hz0).trans d0
    have D1 := (qc _ 1 hz0).trans d1
    have D3 := (qc _ 3 hz0).trans d3
    have E0 := (qc _ 0 hz1).trans e0
    have E1 := (qc _ 1 hz1).trans e1
    have E2 := (qc _ 2 hz1).trans e2
    have hz2 : w.heap.size + 1 < w2.heap.size := Nat.lt_of_lt_of_le hz1 hb2.size
    have hzb : b < w2.heap.size := Nat.lt_of_lt_of_le hb HB2.out.size
    have HPV2 : Hid (0 < i → w2.cell? ⟨b, off + (i - 1) * 3, none⟩ = some (.string ⟨p.pre.toArray⟩)) := fun h9 => (HB2.out.cell (p := ⟨b, off + (i - 1) * 3, none⟩) hb).trans (HPV.out h9)
    have HD2 : Hid (R = if digitsB pre 1 8 = false then 3 else if (decide (0 < i) && leS pre p.pre) = true then 7 else if ((decide (0 < i) && Lib.hasPrefix pre p.pre) || (Lib.hasPrefix (trunk ++ pre) abroad || Lib.hasPrefix abroad (trunk ++ pre))) = true then 13 else if areaBad code pre low high = true then 1 else 0) := HDEF.out
    clear qc qf hb2 d0 d1 d3 e0 e1 e2 HB1 HPV HDEF
    generalize digitsB pre 1 8 = g1 at HD2 ⊢
    as_aux_lemma =>
      cases g1
      · have HR : Hid (R = 3) := HD2.out
        as_aux_lemma =>
          go_wp2_with fail
          go_ret
          exact ⟨by rw [HR.out]; rfl, HB2.out⟩
      · have HD3 : Hid (R = if (decide (0 < i) && leS pre p.pre) = true then 7 else if ((decide (0 < i) && Lib.hasPrefix pre p.pre) || (Lib.hasPrefix (trunk ++ pre) abroad || Lib.hasPrefix abroad (trunk ++ pre))) = true then 13 else if areaBad code pre low high = true then 1 else 0) := HD2.out
        go_upto_region 4 with (fail)
        go_cut [26] (fun s26 wx => s26 = .bool (decide (0 < i) && leS pre p.pre) ∧ Hid (wx = w2.drew))
        case first =>
          by_cases hi0 : i = 0
          · have hk1 : decide (0 < i) = false := decide_eq_false (by omega)
            clear hi0
            as_aux_lemma =>
              refine region_seqI (S := (fun _ => True)) [(true, 0), (true, 1), (true, 2), (true, 3), (true, 4), (true, 5), (true, 6), (true, 7), (true, 8), (true, 9), (true, 10), (true, 11), (true, 12), (true, 13), (true, 14)] (by kernel_rfl) (by kernel_rfl) rfl (by kernel_rfl) trivial ?_
              simp only [seqOps, List.getD_cons_zero, List.getD_cons_succ]
              refine seqI_take (v := .int .i64 i) rfl (fun w9 hS9 => by go_simp) (fun _ _ _ h => h) ?_
              simp only [Act.put, List.setIfInBounds_toArray, List.set_cons_zero, List.set_cons_succ]
              refine seqI_take (v := .bool false) rfl (fun w9 hS9 => by go_simp) (fun _ _ _ h => h) ?_
              simp only [Act.put, List.setIfInBounds_toArray, List.set_cons_zero, List.set_cons_succ]
              refine seqI_take (v := .bool false) rfl (fun w9 hS9 => by go_simp) (fun _ _ _ h => h) ?_
              simp only [Act.put, List.setIfInBounds_toArray, List.set_cons_zero, List.set_cons_succ]
              refine seqI_skip rfl (fun _ _ _ h => h) ?_
              simp only [Act.put, List.setIfInBounds_toArray, List.set_cons_zero, List.set_cons_succ]
              refine seqI_skip rfl (fun _ _ _ h => h) ?_
              simp only [Act.put, List.setIfInBounds_toArray, List.set_cons_zero, List.set_cons_succ]
              refine seqI_skip rfl (fun _ _ _ h => h) ?_
              simp only [Act.put, List.setIfInBounds_toArray, List.set_cons_zero, List.set_cons_succ]
              refine seqI_skip rfl (fun _ _ _ h => h) ?_
              simp only [Act.put, List.setIfInBounds_toArray, List.set_cons_zero, List.set_cons_succ]
              refine seqI_skip rfl (fun _ _ _ h => h) ?_
              simp only [Act.put, List.setIfInBounds_toArray, List.set_cons_zero, List.set_cons_succ]
              refine seqI_skip rfl (fun _ _ _ h => h) ?_
              simp only [Act.put, List.setIfInBounds_toArray, List.set_cons_zero, List.set_cons_succ]
              refine seqI_skip rfl (fun _ _ _ h => h) ?_
              simp only [Act.put, List.setIfInBounds_toArray, List.set_cons_zero, List.set_cons_succ]
              refine seqI_skip rfl (fun _ _ _ h => h) ?_
              simp only [Act.put, List.setIfInBounds_toArray, List.set_cons_zero, List.set_cons_succ]
              refine seqI_skip rfl (fun _ _ _ h => h) ?_
              simp only [Act.put, List.setIfInBounds_toArray, List.set_cons_zero, List.set_cons_succ]
              refine seqI_skip rfl (fun _ _ _ h => h) ?_
              simp only [Act.put, List.setIfInBounds_toArray, List.set_cons_zero, List.set_cons_succ]
              refine seqI_take (v := .bool false) rfl (fun w9 hS9 => by go_simp) (fun _ _ _ h => h) ?_
              simp only [Act.put, List.setIfInBounds_toArray, List.set_cons_zero, List.set_cons_succ]
              refine seqI_take (v := .bool false) rfl (fun w9 hS9 => by go_simp) (fun _ _ _ h => h) ?_
              simp only [Act.put, List.setIfInBounds_toArray, List.set_cons_zero, List.set_cons_succ]
              refine seqI_nil ?_
              go_wp2_with fail
              go_meet
              exact ⟨by rw [hk1]; rfl, rfl⟩
          · have hk1 : 0 < i := by omega
            have hk2 : decide (0 < i) = true := decide_eq_true hk1
            have p0 := HPV2.out hk1
            have kq : ((i : Int) - 1).toNat = i - 1 := by omega
            have kr : 0 ≤ (i : Int) - 1 := by omega
            have ks : (i : Int) - 1 < an := by omega
            have kw : IntKind.i64.wrap ((i : Int) - 1) = (i : Int) - 1 := IntWalk.i64_in _ (by omega)
            as_aux_lemma =>
              refine region_seqI (S := (fun (w9 : World) => w9.cell? ⟨w.heap.size, 3, none⟩ = some (.slice (some ⟨b, off, none⟩) an ac) ∧ w9.cell? ⟨w.heap.size + 1, 0, none⟩ = some (.string ⟨pre.toArray⟩) ∧ w9.cell? ⟨b, off + (i - 1) * 3, none⟩ = some (.string ⟨p.pre.toArray⟩))) [(true, 0), (true, 1), (true, 2), (true, 3), (true, 4), (true, 5), (true, 6), (true, 7), (true, 8), (true, 9), (true, 10), (true, 11), (true, 12), (true, 13), (true, 14)] (by kernel_rfl) (by kernel_rfl) rfl (by kernel_rfl) ⟨D3, E0, p0⟩ ?_
              simp only [seqOps, List.getD_cons_zero, List.getD_cons_succ]
              refine seqI_take (v := .int .i64 i) rfl (fun w9 hS9 => by obtain ⟨s0, s1, s2⟩ := hS9; go_simp) (fun _ _ _ h => h) ?_
              simp only [Act.put, List.setIfInBounds_toArray, List.set_cons_zero, List.set_cons_succ]
              refine seqI_take (v := .bool true) rfl (fun w9 hS9 => by obtain ⟨s0, s1, s2⟩ := hS9; go_simp) (fun _ _ _ h => h) ?_
              simp only [Act.put, List.setIfInBounds_toArray, List.set_cons_zero, List.set_cons_succ]
              refine seqI_take (v := .bool true) rfl (fun w9 hS9 => by obtain ⟨s0, s1, s2⟩ := hS9; go_simp) (fun _ _ _ h => h) ?_
              simp only [Act.put, List.setIfInBounds_toArray, List.set_cons_zero, List.set_cons_succ]
              refine seqI_take (v := .pointer (some ⟨w.heap.size + 1, 0, none⟩)) rfl (fun w9 hS9 => by obtain ⟨s0, s1, s2⟩ := hS9; go_simp) (fun _ _ _ h => h) ?_
              simp only [Act.put, List.setIfInBounds_toArray, List.set_cons_zero, List.set_cons_succ]
              refine seqI_take (v := .string ⟨pre.toArray⟩) rfl (fun w9 hS9 => by obtain ⟨s0, s1, s2⟩ := hS9; go_simp) (fun _ _ _ h => h) ?_
              simp only [Act.put, List.setIfInBounds_toArray, List.set_cons_zero, List.set_cons_succ]
              refine seqI_take (v := .pointer (some ⟨w.heap.size, 3, none⟩)) rfl (fun w9 hS9 => by obtain ⟨s0, s1, s2⟩ := hS9; go_simp) (fun _ _ _ h => h) ?_
              simp only [Act.put, List.setIfInBounds_toArray, List.set_cons_zero, List.set_cons_succ]
              refine seqI_take (v := .slice (some ⟨b, off, none⟩) an ac) rfl (fun w9 hS9 => by obtain ⟨s0, s1, s2⟩ := hS9; go_simp) (fun _ _ _ h => h) ?_
              simp only [Act.put, List.setIfInBounds_toArray, List.set_cons_zero, List.set_cons_succ]
              refine seqI_take (v := .int .i64 i) rfl (fun w9 hS9 => by obtain ⟨s0, s1, s2⟩ := hS9; go_simp) (fun _ _ _ h => h) ?_
              simp only [Act.put, List.setIfInBounds_toArray, List.set_cons_zero, List.set_cons_succ]
              refine seqI_take (v := .int .i64 ((i : Int) - 1)) rfl (fun w9 hS9 => by obtain ⟨s0, s1, s2⟩ := hS9; go_simp) (fun _ _ _ h => h) ?_
              simp only [Act.put, List.setIfInBounds_toArray, List.set_cons_zero, List.set_cons_succ]
              refine seqI_take (v := .pointer (some ⟨b, off + (i - 1) * 3, none⟩)) rfl (fun w9 hS9 => by obtain ⟨s0, s1, s2⟩ := hS9; (go_simp; intro h9; exfalso; omega)) (fun _ _ _ h => h) ?_
              simp only [Act.put, List.setIfInBounds_toArray, List.set_cons_zero, List.set_cons_succ]
              refine seqI_take (v := .pointer (some ⟨b, off + (i - 1) * 3, none⟩)) rfl (fun w9 hS9 => by obtain ⟨s0, s1, s2⟩ := hS9; go_simp) (fun _ _ _ h => h) ?_
              simp only [Act.put, List.setIfInBounds_toArray, List.set_cons_zero, List.set_cons_succ]
              refine seqI_take (v := .string ⟨p.pre.toArray⟩) rfl (fun w9 hS9 => by obtain ⟨s0, s1, s2⟩ := hS9; go_simp) (fun _ _ _ h => h) ?_
              simp only [Act.put, List.setIfInBounds_toArray, List.set_cons_zero, List.set_cons_succ]
              refine seqI_take (v := .bool (leS pre p.pre)) rfl (fun w9 hS9 => by obtain ⟨s0, s1, s2⟩ := hS9; (go_simp; rfl)) (fun _ _ _ h => h) ?_
              simp only [Act.put, List.setIfInBounds_toArray, List.set_cons_zero, List.set_cons_succ]
              refine seqI_take (v := .bool (leS pre p.pre)) rfl (fun w9 hS9 => by obtain ⟨s0, s1, s2⟩ := hS9; go_simp) (fun _ _ _ h => h) ?_
              simp only [Act.put, List.setIfInBounds_toArray, List.set_cons_zero, List.set_cons_succ]
              refine seqI_take (v := .bool (leS pre p.pre)) rfl (fun w9 hS9 => by obtain ⟨s0, s1, s2⟩ := hS9; go_simp) (fun _ _ _ h => h) ?_
              simp only [Act.put, List.setIfInBounds_toArray, List.set_cons_zero, List.set_cons_succ]
              refine seqI_nil ?_
              go_wp2_with fail
              go_meet
              exact ⟨by rw [hk2]; rfl, rfl⟩
        case rest =>
          obtain ⟨rfl, HM⟩ := hcut
          obtain ⟨W, rfl⟩ : ∃ W : World, W = wc := ⟨_, rfl⟩
          have hW := HM.out
          have HBN : Hid (Below w.heap.size w W) := by show Below _ _ _; rw [hW]; exact ext_drew HB2.out
          have D0' : W.cell? ⟨w.heap.size, 0, none⟩ = some (.string ⟨code.toArray⟩) := by rw [hW]; exact D0
          have D1' : W.cell? ⟨w.heap.size, 1, none⟩ = some (.string ⟨abroad.toArray⟩) := by rw [hW]; exact D1
          have D3' : W.cell? ⟨w.heap.size, 3, none⟩ = some (.slice (some ⟨b, off, none⟩) an ac) := by rw [hW]; exact D3
          have E0' : W.cell? ⟨w.heap.size + 1, 0, none⟩ = some (.string ⟨pre.toArray⟩) := by rw [hW]; exact E0
          have E1' : W.cell? ⟨w.heap.size + 1, 1, none⟩ = some (.int .i64 low) := by rw [hW]; exact E1
          have E2' : W.cell? ⟨w.heap.size + 1, 2, none⟩ = some (.int .i64 high) := by rw [hW]; exact E2
          have HPW : Hid (0 < i → W.cell? ⟨b, off + (i - 1) * 3, none⟩ = some (.string ⟨p.pre.toArray⟩)) := fun h9 => by rw [hW]; exact HPV2.out h9
          clear hW HM D0 D1 D3 E0 E1 E2
          as_aux_lemma =>
            generalize (decide (0 < i) && leS pre p.pre) = g4 at HD3 ⊢
            cases g4
            · have HD5 : Hid (R = if ((decide (0 < i) && Lib.hasPrefix pre p.pre) || (Lib.hasPrefix (trunk ++ pre) abroad || Lib.hasPrefix abroad (trunk ++ pre))) = true then 13 else if areaBad code pre low high = true then 1 else 0) := HD3.out
              as_aux_lemma =>
                go_upto_region 6 with (fail)
                go_cut [41] (fun s41 wx => s41 = .bool (decide (0 < i) && Lib.hasPrefix pre p.pre) ∧ Hid (wx = W.drew))
                case first =>
                  by_cases hi0 : i = 0
                  · have hk1 : decide (0 < i) = false := decide_eq_false (by omega)
                    clear hi0
                    as_aux_lemma =>
                      refine region_seqI (S := (fun _ => True)) [(true, 0), (true, 1), (true, 2), (true, 3), (true, 4), (true, 5), (true, 6), (true, 7), (true, 8), (true, 9), (true, 10), (true, 11), (true, 12), (true, 13), (true, 14)] (by kernel_rfl) (by kernel_rfl) rfl (by kernel_rfl) trivial ?_
                      simp only [seqOps, List.getD_cons_zero, List.getD_cons_succ]
                      refine seqI_take (v := .int .i64 i) rfl (fun w9 hS9 => by go_simp) (fun _ _ _ h => h) ?_
                      simp only [Act.put, List.setIfInBounds_toArray, List.set_cons_zero, List.set_cons_succ]
                      refine seqI_take (v := .bool false) rfl (fun w9 hS9 => by go_simp) (fun _ _ _ h => h) ?_
                      simp only [Act.put, List.setIfInBounds_toArray, List.set_cons_zero, List.set_cons_succ]
                      refine seqI_take (v := .bool false) rfl (fun w9 hS9 => by go_simp) (fun _ _ _ h => h) ?_
                      simp only [Act.put, List.setIfInBounds_toArray, List.set_cons_zero, List.set_cons_succ]
                      refine seqI_skip rfl (fun _ _ _ h => h) ?_
                      simp only [Act.put, List.setIfInBounds_toArray, List.set_cons_zero, List.set_cons_succ]
                      refine seqI_skip rfl (fun _ _ _ h => h) ?_
                      simp only [Act.put, List.setIfInBounds_toArray, List.set_cons_zero, List.set_cons_succ]
                      refine seqI_skip rfl (fun _ _ _ h => h) ?_
                      simp only [Act.put, List.setIfInBounds_toArray, List.set_cons_zero, List.set_cons_succ]
                      refine seqI_skip rfl (fun _ _ _ h => h) ?_
                      simp only [Act.put, List.setIfInBounds_toArray, List.set_cons_zero, List.set_cons_succ]
                      refine seqI_skip rfl (fun _ _ _ h => h) ?_
                      simp only [Act.put, List.setIfInBounds_toArray, List.set_cons_zero, List.set_cons_succ]
                      refine seqI_skip rfl (fun _ _ _ h => h) ?_
                      simp only [Act.put, List.setIfInBounds_toArray, List.set_cons_zero, List.set_cons_succ]
                      refine seqI_skip rfl (fun _ _ _ h => h) ?_
                      simp only [Act.put, List.setIfInBounds_toArray, List.set_cons_zero, List.set_cons_succ]
                      refine seqI_skip rfl (fun _ _ _ h => h) ?_
                      simp only [Act.put, List.setIfInBounds_toArray, List.set_cons_zero, List.set_cons_succ]
                      refine seqI_skip rfl (fun _ _ _ h => h) ?_
                      simp only [Act.put, List.setIfInBounds_toArray, List.set_cons_zero, List.set_cons_succ]
                      refine seqI_skip rfl (fun _ _ _ h => h) ?_
                      simp only [Act.put, List.setIfInBounds_toArray, List.set_cons_zero, List.set_cons_succ]
                      refine seqI_take (v := .bool false) rfl (fun w9 hS9 => by go_simp) (fun _ _ _ h => h) ?_
                      simp only [Act.put, List.setIfInBounds_toArray, List.set_cons_zero, List.set_cons_succ]
                      refine seqI_take (v := .bool false) rfl (fun w9 hS9 => by go_simp) (fun _ _ _ h => h) ?_
                      simp only [Act.put, List.setIfInBounds_toArray, List.set_cons_zero, List.set_cons_succ]
                      refine seqI_nil ?_
                      go_wp2_with fail
                      go_meet
                      exact ⟨by rw [hk1]; rfl, rfl⟩
                  · have hk1 : 0 < i := by omega
                    have hk2 : decide (0 < i) = true := decide_eq_true hk1
                    have p0 := HPW.out hk1
                    have kq : ((i : Int) - 1).toNat = i - 1 := by omega
                    have kr : 0 ≤ (i : Int) - 1 := by omega
                    have ks : (i : Int) - 1 < an := by omega
                    have kw : IntKind.i64.wrap ((i : Int) - 1) = (i : Int) - 1 := IntWalk.i64_in _ (by omega)
                    as_aux_lemma =>
                      refine region_seqI (S := (fun (w9 : World) => w9.cell? ⟨w.heap.size, 3, none⟩ = some (.slice (some ⟨b, off, none⟩) an ac) ∧ w9.cell? ⟨w.heap.size + 1, 0, none⟩ = some (.string ⟨pre.toArray⟩) ∧ w9.cell? ⟨b, off + (i - 1) * 3, none⟩ = some (.string ⟨p.pre.toArray⟩))) [(true, 0), (true, 1), (true, 2), (true, 3), (true, 4), (true, 5), (true, 6), (true, 7), (true, 8), (true, 9), (true, 10), (true, 11), (false, 12), (true, 13), (true, 14)] (by kernel_rfl) (by kernel_rfl) rfl (by kernel_rfl) ⟨D3', E0', p0⟩ ?_
                      simp only [seqOps, List.getD_cons_zero, List.getD_cons_succ]
                      refine seqI_take (v := .int .i64 i) rfl (fun w9 hS9 => by obtain ⟨s0, s1, s2⟩ := hS9; go_simp) (fun _ _ _ h => h) ?_
                      simp only [Act.put, List.setIfInBounds_toArray, List.set_cons_zero, List.set_cons_succ]
                      refine seqI_take (v := .bool true) rfl (fun w9 hS9 => by obtain ⟨s0, s1, s2⟩ := hS9; go_simp) (fun _ _ _ h => h) ?_
                      simp only [Act.put, List.setIfInBounds_toArray, List.set_cons_zero, List.set_cons_succ]
                      refine seqI_take (v := .bool true) rfl (fun w9 hS9 => by obtain ⟨s0, s1, s2⟩ := hS9; go_simp) (fun _ _ _ h => h) ?_
                      simp only [Act.put, List.setIfInBounds_toArray, List.set_cons_zero, List.set_cons_succ]
                      refine seqI_take (v := .pointer (some ⟨w.heap.size + 1, 0, none⟩)) rfl (fun w9 hS9 => by obtain ⟨s0, s1, s2⟩ := hS9; go_simp) (fun _ _ _ h => h) ?_
                      simp only [Act.put, List.setIfInBounds_toArray, List.set_cons_zero, List.set_cons_succ]
                      refine seqI_take (v := .string ⟨pre.toArray⟩) rfl (fun w9 hS9 => by obtain ⟨s0, s1, s2⟩ := hS9; go_simp) (fun _ _ _ h => h) ?_
                      simp only [Act.put, List.setIfInBounds_toArray, List.set_cons_zero, List.set_cons_succ]
                      refine seqI_take (v := .pointer (some ⟨w.heap.size, 3, none⟩)) rfl (fun w9 hS9 => by obtain ⟨s0, s1, s2⟩ := hS9; go_simp) (fun _ _ _ h => h) ?_
                      simp only [Act.put, List.setIfInBounds_toArray, List.set_cons_zero, List.set_cons_succ]
                      refine seqI_take (v := .slice (some ⟨b, off, none⟩) an ac) rfl (fun w9 hS9 => by obtain ⟨s0, s1, s2⟩ := hS9; go_simp) (fun _ _ _ h => h) ?_
                      simp only [Act.put, List.setIfInBounds_toArray, List.set_cons_zero, List.set_cons_succ]
                      refine seqI_take (v := .int .i64 i) rfl (fun w9 hS9 => by obtain ⟨s0, s1, s2⟩ := hS9; go_simp) (fun _ _ _ h => h) ?_
                      simp only [Act.put, List.setIfInBounds_toArray, List.set_cons_zero, List.set_cons_succ]
                      refine seqI_take (v := .int .i64 ((i : Int) - 1)) rfl (fun w9 hS9 => by obtain ⟨s0, s1, s2⟩ := hS9; go_simp) (fun _ _ _ h => h) ?_
                      simp only [Act.put, List.setIfInBounds_toArray, List.set_cons_zero, List.set_cons_succ]
                      refine seqI_take (v := .pointer (some ⟨b, off + (i - 1) * 3, none⟩)) rfl (fun w9 hS9 => by obtain ⟨s0, s1, s2⟩ := hS9; (go_simp; intro h9; exfalso; omega)) (fun _ _ _ h => h) ?_
                      simp only [Act.put, List.setIfInBounds_toArray, List.set_cons_zero, List.set_cons_succ]
                      refine seqI_take (v := .pointer (some ⟨b, off + (i - 1) * 3, none⟩)) rfl (fun w9 hS9 => by obtain ⟨s0, s1, s2⟩ := hS9; go_simp) (fun _ _ _ h => h) ?_
                      simp only [Act.put, List.setIfInBounds_toArray, List.set_cons_zero, List.set_cons_succ]
                      refine seqI_take (v := .string ⟨p.pre.toArray⟩) rfl (fun w9 hS9 => by obtain ⟨s0, s1, s2⟩ := hS9; go_simp) (fun _ _ _ h => h) ?_
                      simp only [Act.put, List.setIfInBounds_toArray, List.set_cons_zero, List.set_cons_succ]
                      refine seqI_call 75 #[.string ⟨pre.toArray⟩, .string ⟨p.pre.toArray⟩] rfl (by go_simp) (hasPrefix_l pre p.pre _) ?_
                      rintro e w9 ⟨rfl, rfl⟩
                      refine ⟨_, rfl, ⟨D3', E0', p0⟩, ?_⟩
                      simp only [Act.put, List.setIfInBounds_toArray, List.set_cons_zero, List.set_cons_succ]
                      refine seqI_take (v := .bool (Lib.hasPrefix pre p.pre)) rfl (fun w9 hS9 => by obtain ⟨s0, s1, s2⟩ := hS9; go_simp) (fun _ _ _ h => h) ?_
                      simp only [Act.put, List.setIfInBounds_toArray, List.set_cons_zero, List.set_cons_succ]
                      refine seqI_take (v := .bool (Lib.hasPrefix pre p.pre)) rfl (fun w9 hS9 => by obtain ⟨s0, s1, s2⟩ := hS9; go_simp) (fun _ _ _ h => h) ?_
                      simp only [Act.put, List.setIfInBounds_toArray, List.set_cons_zero, List.set_cons_succ]
                      refine seqI_nil ?_
                      go_wp2_with fail
                      go_meet
                      exact ⟨by rw [hk2]; rfl, rfl⟩
                case rest =>
                  obtain ⟨rfl, HM⟩ := hcut
                  obtain ⟨W9, rfl⟩ : ∃ W9 : World, W9 = wc := ⟨_, rfl⟩
                  have hW := HM.out
                  have HB9 : Hid (Below w.heap.size w W9) := by show Below _ _ _; rw [hW]; exact ext_drew HBN.out
                  have D09 : W9.cell? ⟨w.heap.size, 0, none⟩ = some (.string ⟨code.toArray⟩) := by rw [hW]; exact D0'
                  have D19 : W9.cell? ⟨w.heap.size, 1, none⟩ = some (.string ⟨abroad.toArray⟩) := by rw [hW]; exact D1'
                  have E09 : W9.cell? ⟨w.heap.size + 1, 0, none⟩ = some (.string ⟨pre.toArray⟩) := by rw [hW]; exact E0'
                  have E19 : W9.cell? ⟨w.heap.size + 1, 1, none⟩ = some (.int .i64 low) := by rw [hW]; exact E1'
                  have E29 : W9.cell? ⟨w.heap.size + 1, 2, none⟩ = some (.int .i64 high) := by rw [hW]; exact E2'
                  clear hW HM D0' D1' D3' E0' E1' E2'
                  as_aux_lemma =>
                    generalize (decide (0 < i) && Lib.hasPrefix pre p.pre) = g5 at HD5 ⊢
                    cases g5
                    · have HT : Hid (R = if (Lib.hasPrefix (trunk ++ pre) abroad || Lib.hasPrefix abroad (trunk ++ pre)) = true then 13 else if areaBad code pre low high = true then 1 else 0) := HD5.out
                      clear HPW HD5 HD3
                      as_aux_lemma =>
                        go_wp2_with fail
                        refine (hasPrefix_l (trunk ++ pre) abroad _).mono ?_
                        rintro e w' ⟨rfl, rfl⟩
                        generalize Lib.hasPrefix (trunk ++ pre) abroad = g2 at HT ⊢
                        as_aux_lemma =>
                          cases g2
                          · go_wp2_with fail
                            refine (hasPrefix_l abroad (trunk ++ pre) _).mono ?_
                            rintro e w' ⟨rfl, rfl⟩
                            generalize Lib.hasPrefix abroad (trunk ++ pre) = g3 at HT ⊢
                            as_aux_lemma =>
                              cases g3
                              · have HT2 : Hid (R = if areaBad code pre low high = true then 1 else 0) := HT.out
                                by_cases k1 : low ≤ (pre.length : Int)
                                · have HF : Hid (R = 1) := by show _ = _; rw [HT2.out, if_pos]; unfold areaBad; rw [decide_eq_true k1]; rfl
                                  as_aux_lemma =>
                                    go_wp2_with fail
                                    go_ret
                                    exact ⟨by rw [HF.out]; rfl, HB9.out⟩
                                · have k1' : decide (low ≤ (pre.length : Int)) = false := decide_eq_false k1
                                  by_cases k2 : high < low
                                  · have HF : Hid (R = 1) := by show _ = _; rw [HT2.out, if_pos]; unfold areaBad; rw [k1', decide_eq_true k2]; rfl
                                    as_aux_lemma =>
                                      go_wp2_with fail
                                      go_ret
                                      exact ⟨by rw [HF.out]; rfl, HB9.out⟩
                                  · have k2' : decide (high < low) = false := decide_eq_false k2
                                    by_cases k3 : 15 - (code.length : Int) < high
                                    · have HF : Hid (R = 1) := by show _ = _; rw [HT2.out, if_pos]; unfold areaBad; rw [k1', k2', decide_eq_true k3]; rfl
                                      as_aux_lemma =>
                                        go_wp2_with fail
                                        go_ret
                                        exact ⟨by rw [HF.out]; rfl, HB9.out⟩
                                    · have k3' : decide (15 - (code.length : Int) < high) = false := decide_eq_false k3
                                      by_cases k4 : low < 4 - (code.length : Int)
                                      · have HF : Hid (R = 1) := by show _ = _; rw [HT2.out, if_pos]; unfold areaBad; rw [k1', k2', k3', decide_eq_true k4]; rfl
                                        as_aux_lemma =>
                                          go_wp2_with fail
                                          go_ret
                                          exact ⟨by rw [HF.out]; rfl, HB9.out⟩
                                      · have k4' : decide (low < 4 - (code.length : Int)) = false := decide_eq_false k4
                                        have HF : Hid (R = 0) := by show _ = _; rw [HT2.out, if_neg]; unfold areaBad; rw [k1', k2', k3', k4']; simp
                                        as_aux_lemma =>
                                          go_wp2_with fail
                                          go_ret
                                          exact ⟨by rw [HF.out]; rfl, HB9.out⟩
                              · have HF : Hid (R = 13) := HT.out
                                as_aux_lemma =>
                                  go_wp2_with fail
                                  go_ret
                                  exact ⟨by rw [HF.out]; rfl, HB9.out⟩
                          · have HF : Hid (R = 13) := HT.out
                            as_aux_lemma =>
                              go_wp2_with fail
                              go_ret
                              exact ⟨by rw [HF.out]; rfl, HB9.out⟩
                    · have HF : Hid (R = 13) := HD5.out
                      as_aux_lemma =>
                        go_wp2_with fail
                        go_ret
                        exact ⟨by rw [HF.out]; rfl, HB9.out⟩
            · have HF : Hid (R = 7) := HD3.out
              as_aux_lemma =>
                go_wp2_with fail
                go_ret
                exact ⟨by rw [HF.out]; rfl, HBN.out⟩
end Go.Proofs.YtbimecknmojnoaaGreatDoor
