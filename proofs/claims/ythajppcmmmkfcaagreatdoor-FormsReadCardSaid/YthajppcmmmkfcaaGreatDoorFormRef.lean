/- What is proved here: how the reference writes a number. Condition: the plan is right and lies in memory as stated; the home's country is in it. -/
import Derived.Test.YthajppcmmmkfcaaGreatDoorFormWalk
import Derived.Test.YthajppcmmmkfcaaGreatDoorHomes
import Derived.Test.YthajppcmmmkfcaaGreatDoorRegionSeq
set_option linter.unusedVariables false
set_option linter.unusedSimpArgs false
namespace Go.Proofs.YthajppcmmmkfcaaGreatDoor
open Go.RowKit

set_option maxRecDepth 100000 in
theorem countryAt_idx (w : World) (a : Option Addr) (n cap : Nat) (l : List Ctry) (hr : CtryRow w a n l) (hne : 1 ≤ n) (code : List UInt8) : Calls Tryz.prog 56 #[.slice a n cap, .string ⟨code.toArray⟩] w fun e w' => e = .returned (.int .i64 (Lib.idxBy (fun _ y => y.code == code) l default)) ∧ Below w.heap.size w w' := by
  rcases hr.row with h0 | ⟨b, off, rfl, hb, hcl⟩
  · omega
  have HLEN := Lib.hid hr.len
  have hfew := hr.few
  have HENC := Lib.hid (ctry_enc hr.len hcl)
  clear hr hcl
  go_enter Tryz.func56, Tryz.ntmps56
  go_wp2_with fail
  refine (Tryz.slices_idxC Ctry.cells (fun x => rfl) (fun x => x.code == code) 95 #[.pointer (some ⟨w.heap.size, 0, none⟩)] (fun args w => rfl) b off n cap l _ (codeAt_pred code w.heap.size _ (by simp) (by go_simp)) (by have := HLEN.out; omega) (by omega) (by simp; omega) (fun j hj i v hv => (World.cell?_alloc_lt _ _ _ (by show b < _; omega)).trans (HENC.out j hj i v hv))).mono ?_
  rintro e w1 ⟨rfl, hb1⟩
  have HB1 : Hid (Below w.heap.size w w1) := ext_trans (ext_alloc (Below.refl _ _)) hb1
  rw [List.take_of_length_le (by have := HLEN.out; omega)]
  clear hb1
  generalize hq : Lib.idxBy (fun _ y => y.code == code) l default = r
  have HQ := Lib.hid hq
  clear hq
  go_wp2_with fail
  go_ret
  exact ⟨by rw [HQ.out]; rfl, HB1.out⟩

set_option maxRecDepth 100000 in
set_option maxHeartbeats 4000000 in
theorem formFrom_any (w : World) (a : Option Addr) (n cap : Nat) (l : List Ctry) (hr : CtryRow w a n l) (hcap : n ≤ cap) (hne : 1 ≤ n) (hE : planErr l = 0) (c : Ctry) (code0 area s : List UInt8) (hfc : (l.find? fun c => c.code == code0) = some c) (hs : s.length ≤ 1000) :
    Calls Tryz.prog 32 #[.slice a n cap, .agg #[.string ⟨code0.toArray⟩, .string ⟨area.toArray⟩], .string ⟨s.toArray⟩] w fun e w' => e = .returned (.string ⟨(formP c (splitP l s)).toArray⟩) ∧ Below w.heap.size w w' := by
  have HR := Lib.hid hr
  have HLEN := Lib.hid hr.len
  have hfew := hr.few
  have HFC := Lib.hid hfc
  have HCC : Hid (c.code = code0) := by
    have := List.find?_some hfc
    show _ = _
    simpa using this
  have HSS := Lib.hid (split_same s hE)
  obtain ⟨g1, g2, g3⟩ := ctry_len hr hfc
  obtain ⟨z1, z2, z3⟩ := spl_len hr s
  rcases hr.row with h0 | ⟨b, off, rfl, hb, _⟩
  · omega
  have HSP := Lib.hid (fun w9 (h9 : CtryRow w9 (some ⟨b, off, none⟩) n l) => splitOf_any w9 (some ⟨b, off, none⟩) n cap l h9 hcap s hs)
  rw [HSS.out] at HSP
  generalize splitP l s = X at z1 z2 z3 HSP ⊢
  obtain ⟨er, x1, x2, x3⟩ := X
  simp only at z1 z2 z3
  have HGR := Lib.hid (fun w => groups_any x3 (by omega) w)
  have hgl : (groupsB x3).length ≤ 2000 := Nat.le_trans (groups_len _ x3 (Nat.le_refl _)) (by omega)
  have HDEF : Hid (formP c ⟨er, x1, x2, x3⟩ = formPre c ⟨er, x1, x2, x3⟩ ++ groupsB x3) := rfl
  generalize formP c ⟨er, x1, x2, x3⟩ = R at HDEF ⊢
  generalize groupsB x3 = gs at HGR hgl HDEF
  clear hr hE hfc HSS
  go_enter Tryz.func32, Tryz.ntmps32
  go_wp2_with fail
  refine (HSP.out _ (HR.out.below (ext_alloc (Below.refl _ _)))).mono ?_
  rintro e w1 ⟨rfl, hb1⟩
  have e0 : w1.cell? ⟨w.heap.size, 0, none⟩ = some (.string ⟨code0.toArray⟩) := (hb1.cell (p := ⟨w.heap.size, 0, none⟩) (by simp)).trans (by go_simp)
  have HB1 : Hid (Below w.heap.size w w1) := ext_trans (ext_alloc (Below.refl _ _)) hb1
  have hz1 : w.heap.size < w1.heap.size := by have := hb1.size; simp at this; omega
  clear hb1
  simp only
  by_cases hcode : x1 = code0
  · obtain rfl : code0 = x1 := hcode.symm
    obtain ⟨k, hk, hck, hat⟩ : ∃ k : Nat, k < n ∧ l.getD k noCtry = c ∧ ∀ W : World, Below w1.heap.size w1 W → Calls Tryz.prog 56 #[.slice (some ⟨b, off, none⟩) n cap, .string ⟨code0.toArray⟩] W fun e w' => e = .returned (.int .i64 k) ∧ Below W.heap.size W w' := by
      have hidx := idx_find (fun x : Ctry => x.code == code0) l
      rcases hidx with ⟨_, hn⟩ | ⟨k, hk, hi, hs2, _⟩
      · rw [HFC.out] at hn; cases hn
      · refine ⟨k, by rw [HLEN.out]; exact hk, by rw [HFC.out] at hs2; injection hs2 with h; rw [h]; simp [hk], fun W hW => ?_⟩
        refine (countryAt_idx W _ n cap l (HR.out.below (ext_trans HB1.out hW)) hne code0).mono ?_
        rintro e w' ⟨rfl, hb⟩
        exact ⟨by rw [hi], hb⟩
    obtain ⟨code, abroad, trunk, aa, an, ac, areas⟩ := c
    have htr : trunk.length ≤ 100 := g3
    have hz2 : w1.heap.size < (w1.alloc (.cells #[.string ⟨code0.toArray⟩, .string ⟨x2.toArray⟩, .string ⟨x3.toArray⟩] 50)).heap.size := by simp
    have k2 : w1.cell? ⟨b, off + k * 4 + 2, none⟩ = some (.string ⟨trunk.toArray⟩) := by
      have hrw := HR.out.below HB1.out
      rcases hrw.row with h0 | ⟨b9, off9, ha9, hb9, hcl⟩
      · omega
      · injection ha9 with ha9
        injection ha9 with y1 y2
        subst y1 y2
        have := hcl k hk 2 (by omega)
        rw [hck] at this
        exact this
    have hbw : b < w1.heap.size := Nat.lt_of_lt_of_le hb HB1.out.size
    have hS0 : (fun W => W.cell? ⟨w.heap.size, 0, none⟩ = some (.string ⟨code0.toArray⟩) ∧ W.cell? ⟨w1.heap.size, 1, none⟩ = some (.string ⟨x2.toArray⟩) ∧ W.cell? ⟨w1.heap.size, 2, none⟩ = some (.string ⟨x3.toArray⟩) ∧ W.cell? ⟨b, off + k * 4 + 2, none⟩ = some (.string ⟨trunk.toArray⟩)) ((w1.alloc (.cells #[.string ⟨code0.toArray⟩, .string ⟨x2.toArray⟩, .string ⟨x3.toArray⟩] 50)).drew) := ⟨by go_simp, by go_simp, by go_simp, by go_simp⟩
    have HCAT : Hid (Calls Tryz.prog 56 #[.slice (some ⟨b, off, none⟩) n cap, .string ⟨code0.toArray⟩] ((w1.alloc (.cells #[.string ⟨code0.toArray⟩, .string ⟨x2.toArray⟩, .string ⟨x3.toArray⟩] 50)).drew) fun e w' => e = .returned (.int .i64 k) ∧ (fun W => W.cell? ⟨w.heap.size, 0, none⟩ = some (.string ⟨code0.toArray⟩) ∧ W.cell? ⟨w1.heap.size, 1, none⟩ = some (.string ⟨x2.toArray⟩) ∧ W.cell? ⟨w1.heap.size, 2, none⟩ = some (.string ⟨x3.toArray⟩) ∧ W.cell? ⟨b, off + k * 4 + 2, none⟩ = some (.string ⟨trunk.toArray⟩)) w' ∧ Below ((w1.alloc (.cells #[.string ⟨code0.toArray⟩, .string ⟨x2.toArray⟩, .string ⟨x3.toArray⟩] 50)).drew).heap.size ((w1.alloc (.cells #[.string ⟨code0.toArray⟩, .string ⟨x2.toArray⟩, .string ⟨x3.toArray⟩] 50)).drew) w') := by
      refine (hat _ (ext_drew (ext_alloc (Below.refl _ _)))).mono ?_
      rintro e w' ⟨rfl, hb9⟩
      obtain ⟨m0, m1, m2, m3⟩ := hS0
      exact ⟨rfl, ⟨(hb9.cell (p := ⟨w.heap.size, 0, none⟩) (by simp; omega)).trans m0, (hb9.cell (p := ⟨w1.heap.size, 1, none⟩) (by simp)).trans m1, (hb9.cell (p := ⟨w1.heap.size, 2, none⟩) (by simp)).trans m2, (hb9.cell (p := ⟨b, off + k * 4 + 2, none⟩) (by simp; omega)).trans m3⟩, hb9⟩
    have HS0 := Lib.hid hS0
    have HF : Hid (R = ((((([40] : List UInt8) ++ trunk) ++ x2) ++ ([41, 32] : List UInt8)) ++ gs)) := by
      show _ = _
      rw [HDEF.out, formPre, if_pos (by rw [HCC.out])]
      simp
    have hk64 : k < n := hk
    clear hS0 hat k2 hck
    skip
    as_aux_lemma =>
      go_upto_region 4 with (fail)
      refine region_seqI (S := fun W => W.cell? ⟨w.heap.size, 0, none⟩ = some (.string ⟨code0.toArray⟩) ∧ W.cell? ⟨w1.heap.size, 1, none⟩ = some (.string ⟨x2.toArray⟩) ∧ W.cell? ⟨w1.heap.size, 2, none⟩ = some (.string ⟨x3.toArray⟩) ∧ W.cell? ⟨b, off + k * 4 + 2, none⟩ = some (.string ⟨trunk.toArray⟩)) [(true, 0), (true, 1), (true, 2), (true, 3), (true, 9), (true, 10), (true, 13), (true, 14), (false, 4), (true, 5), (true, 6), (true, 7), (true, 8), (true, 11), (true, 12), (false, 15), (true, 16), (true, 17)] (by kernel_rfl) (by kernel_rfl) rfl (by kernel_rfl) HS0.out ?_
      simp only [seqOps, List.getD_cons_zero, List.getD_cons_succ]
      refine seqI_take (v := .slice (some ⟨b, off, none⟩) n cap) rfl (fun W hW => by obtain ⟨m0, m1, m2, m3⟩ := hW; go_simp) (fun _ _ _ h => h) ?_
      simp only [Act.put, List.setIfInBounds_toArray, List.set_cons_zero, List.set_cons_succ]
      refine seqI_take (v := .slice (some ⟨b, off, none⟩) n cap) rfl (fun W hW => by obtain ⟨m0, m1, m2, m3⟩ := hW; go_simp) (fun _ _ _ h => h) ?_
      simp only [Act.put, List.setIfInBounds_toArray, List.set_cons_zero, List.set_cons_succ]
      refine seqI_take (v := .pointer (some ⟨w.heap.size, 0, none⟩)) rfl (fun W hW => by obtain ⟨m0, m1, m2, m3⟩ := hW; go_simp) (fun _ _ _ h => h) ?_
      simp only [Act.put, List.setIfInBounds_toArray, List.set_cons_zero, List.set_cons_succ]
      refine seqI_take (v := .string ⟨code0.toArray⟩) rfl (fun W hW => by obtain ⟨m0, m1, m2, m3⟩ := hW; go_simp) (fun _ _ _ h => h) ?_
      simp only [Act.put, List.setIfInBounds_toArray, List.set_cons_zero, List.set_cons_succ]
      refine seqI_take (v := .pointer (some ⟨w1.heap.size, 1, none⟩)) rfl (fun W hW => by obtain ⟨m0, m1, m2, m3⟩ := hW; go_simp) (fun _ _ _ h => h) ?_
      simp only [Act.put, List.setIfInBounds_toArray, List.set_cons_zero, List.set_cons_succ]
      refine seqI_take (v := .string ⟨x2.toArray⟩) rfl (fun W hW => by obtain ⟨m0, m1, m2, m3⟩ := hW; go_simp) (fun _ _ _ h => h) ?_
      simp only [Act.put, List.setIfInBounds_toArray, List.set_cons_zero, List.set_cons_succ]
      refine seqI_take (v := .pointer (some ⟨w1.heap.size, 2, none⟩)) rfl (fun W hW => by obtain ⟨m0, m1, m2, m3⟩ := hW; go_simp) (fun _ _ _ h => h) ?_
      simp only [Act.put, List.setIfInBounds_toArray, List.set_cons_zero, List.set_cons_succ]
      refine seqI_take (v := .string ⟨x3.toArray⟩) rfl (fun W hW => by obtain ⟨m0, m1, m2, m3⟩ := hW; go_simp) (fun _ _ _ h => h) ?_
      simp only [Act.put, List.setIfInBounds_toArray, List.set_cons_zero, List.set_cons_succ]
      refine seqI_call 56 #[.slice (some ⟨b, off, none⟩) n cap, .string ⟨code0.toArray⟩] rfl (by have m := HS0.out; obtain ⟨m0, m1, m2, m3⟩ := m; go_simp) (HCAT.out) ?_
      rintro e w9 ⟨rfl, hS9, hb9⟩
      refine ⟨_, rfl, hS9, ?_⟩
      have HS9 := Lib.hid hS9
      have HB9 := Lib.hid hb9
      clear hS9 hb9
      simp only [Act.put, List.setIfInBounds_toArray, List.set_cons_zero, List.set_cons_succ]
      refine seqI_take (v := .pointer (some ⟨b, off + k * 4, none⟩)) rfl (fun W hW => by obtain ⟨m0, m1, m2, m3⟩ := hW; go_simp) (fun _ _ _ h => h) ?_
      simp only [Act.put, List.setIfInBounds_toArray, List.set_cons_zero, List.set_cons_succ]
      refine seqI_take (v := .pointer (some ⟨b, off + k * 4 + 2, none⟩)) rfl (fun W hW => by obtain ⟨m0, m1, m2, m3⟩ := hW; go_simp) (fun _ _ _ h => h) ?_
      simp only [Act.put, List.setIfInBounds_toArray, List.set_cons_zero, List.set_cons_succ]
      refine seqI_take (v := .string ⟨trunk.toArray⟩) rfl (fun W hW => by obtain ⟨m0, m1, m2, m3⟩ := hW; go_simp) (fun _ _ _ h => h) ?_
      simp only [Act.put, List.setIfInBounds_toArray, List.set_cons_zero, List.set_cons_succ]
      refine seqI_take (v := .string ⟨(([40] : List UInt8) ++ trunk).toArray⟩) rfl (fun W hW => by obtain ⟨m0, m1, m2, m3⟩ := hW; rw [← cat_str ([40] : List UInt8) trunk]; go_simp <;> (try simp only [List.length_append, List.length_cons, List.length_nil]) <;> omega) (fun _ _ _ h => h) ?_
      simp only [Act.put, List.setIfInBounds_toArray, List.set_cons_zero, List.set_cons_succ]
      refine seqI_take (v := .string ⟨((([40] : List UInt8) ++ trunk) ++ x2).toArray⟩) rfl (fun W hW => by obtain ⟨m0, m1, m2, m3⟩ := hW; rw [← cat_str (([40] : List UInt8) ++ trunk) x2]; go_simp <;> (try simp only [List.length_append, List.length_cons, List.length_nil]) <;> omega) (fun _ _ _ h => h) ?_
      simp only [Act.put, List.setIfInBounds_toArray, List.set_cons_zero, List.set_cons_succ]
      refine seqI_take (v := .string ⟨(((([40] : List UInt8) ++ trunk) ++ x2) ++ ([41, 32] : List UInt8)).toArray⟩) rfl (fun W hW => by obtain ⟨m0, m1, m2, m3⟩ := hW; rw [← cat_str ((([40] : List UInt8) ++ trunk) ++ x2) ([41, 32] : List UInt8)]; go_simp <;> (try simp only [List.length_append, List.length_cons, List.length_nil]) <;> omega) (fun _ _ _ h => h) ?_
      simp only [Act.put, List.setIfInBounds_toArray, List.set_cons_zero, List.set_cons_succ]
      refine seqI_call 77 #[.string ⟨x3.toArray⟩] rfl (by have m := HS9.out; obtain ⟨m0, m1, m2, m3⟩ := m; go_simp) (HGR.out _) ?_
      rintro e w10 ⟨rfl, rfl⟩
      refine ⟨_, rfl, HS9.out, ?_⟩
      simp only [Act.put, List.setIfInBounds_toArray, List.set_cons_zero, List.set_cons_succ]
      refine seqI_take (v := .string ⟨((((([40] : List UInt8) ++ trunk) ++ x2) ++ ([41, 32] : List UInt8)) ++ gs).toArray⟩) rfl (fun W hW => by obtain ⟨m0, m1, m2, m3⟩ := hW; rw [← cat_str (((([40] : List UInt8) ++ trunk) ++ x2) ++ ([41, 32] : List UInt8)) gs]; go_simp <;> (try simp only [List.length_append, List.length_cons, List.length_nil]) <;> omega) (fun _ _ _ h => h) ?_
      simp only [Act.put, List.setIfInBounds_toArray, List.set_cons_zero, List.set_cons_succ]
      refine seqI_take (v := .string ⟨((((([40] : List UInt8) ++ trunk) ++ x2) ++ ([41, 32] : List UInt8)) ++ gs).toArray⟩) rfl (fun W hW => by obtain ⟨m0, m1, m2, m3⟩ := hW; go_simp) (fun _ _ _ h => h) ?_
      simp only [Act.put, List.setIfInBounds_toArray, List.set_cons_zero, List.set_cons_succ]
      refine seqI_nil ?_
      clear HS0 HCAT HGR
      go_wp2_with fail
      go_ret
      exact ⟨by rw [HF.out]; exact congrArg (fun l : List UInt8 => Ending.returned (.string ⟨l.toArray⟩)) (show (40 :: (trunk ++ (x2 ++ 41 :: 32 :: gs))) = _ by simp), ext_trans (ext_drew (ext_alloc HB1.out)) HB9.out⟩
  · have hne2 : (x1 == code0) = false := by simpa using hcode
    have HF : Hid (R = ((((([43] : List UInt8) ++ x1) ++ ([32] : List UInt8)) ++ x2) ++ ([32] : List UInt8)) ++ gs) := by
      show _ = _
      rw [HDEF.out, formPre, if_neg (by rw [HCC.out]; exact hcode)]
      simp
    have hne3 : ¬ (x1 = code0) := hcode
    as_aux_lemma =>
      go_upto_region 3 with (fail)
      go_quiet (first | (go_at_call 77; refine Calls.quiet_of_same (v := .string ⟨gs.toArray⟩) ((HGR.out _).mono ?_); rintro e w' ⟨rfl, rfl⟩; exact ⟨rfl, rfl⟩))
      all_goals
        go_wp2_with fail
        go_ret
        exact ⟨by rw [HF.out]; simp only [cat_str]; rfl, (by (try show Below _ _ _); repeat (with_reducible first | exact Below.refl _ _ | assumption | exact Hid.out (by assumption) | refine ext_alloc ?_ | refine ext_drewN ?_ | refine ext_drew ?_ | refine ext_setCell ?_ (Nat.le_refl _) | refine ext_setCell ?_ (Nat.le_succ _) | refine ext_trans ?_ (by assumption) | (refine ext_setCell ?_ (by simp)) | (refine ext_setCell ?_ (by simp at *; omega))))⟩
end Go.Proofs.YthajppcmmmkfcaaGreatDoor
