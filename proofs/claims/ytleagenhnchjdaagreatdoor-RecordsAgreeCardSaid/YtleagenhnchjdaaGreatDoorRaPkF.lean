/- What is proved here: lemmas and contracts for the statement, put together out of smaller texts (RecRd1, SetQ, DkpLns, RecRd2, SortGb, RecSort, RecFlt, RecIdx, InsMem). No condition beyond those stated. -/
import Derived.Test.YtleagenhnchjdaaGreatDoorRaPkE
import Derived.Test.YtleagenhnchjdaaGreatDoorRaPkA
import Derived.Deep.DeepCutAuto
import Derived.Test.YtleagenhnchjdaaGreatDoorRaPkB
import Derived.Test.YtleagenhnchjdaaGreatDoorRaPkD
import Derived.Test.YtleagenhnchjdaaGreatDoorRaPkC
import Derived.Sort.LotA
import Derived.Test.YtleagenhnchjdaaGreatDoorShelfRec
import Derived.BigFrame
import Derived.IntWalk
import Derived.Test.YtleagenhnchjdaaGreatDoorShelfIdr
set_option linter.unusedVariables false
set_option linter.unusedSimpArgs false
namespace Go.Proofs.YtleagenhnchjdaaGreatDoor
open Go.RowKit Go.Sort Go.Lib

theorem belowR {B : Nat} {a w : World} (hA : a.heap.size ≤ B) (h : Below a.heap.size a w) : ∀ (vs : List Value) (k : Nat), Below a.heap.size a (w.setCells B k vs) := fun vs k => by
  have hg := setCells_gb (w := w) B vs k
  exact ⟨hg.os.trans h.os, hg.tape.trans h.tape, hg.output.trans h.output, Nat.le_trans h.size hg.size, fun j hj => (hg.block j (Nat.lt_of_lt_of_le hj h.size) (fun e => by injection e with e; omega)).trans (h.block j hj)⟩
theorem blkSet8 {w : World} {B : Nat} {ty : TypeId} {z0 z1 z2 z3 z4 z5 z6 z7 u0 u1 u2 u3 u4 u5 u6 u7 : Value} (h : Blk w B [z0, z1, z2, z3, z4, z5, z6, z7] ty) : Blk (w.setCells B 0 [u0, u1, u2, u3, u4, u5, u6, u7]) B [u0, u1, u2, u3, u4, u5, u6, u7] ty :=
  (((((((h.put 0 u0).put 1 u1).put 2 u2).put 3 u3).put 4 u4).put 5 u5).put 6 u6).put 7 u7
theorem car_not {s : List UInt8} (h : s ∈ carsB) : s ≠ [45] := fun e => by subst e; exact absurd h (by decide)
def ReadR1 (a : Vrec) (w : World) (e : Ending) (w' : World) : Prop := e = .returned (.tuple #[a.val, .bool true]) ∧ Below w.heap.size w w'
theorem build_rec8 (e : Operand → Value) (o : Oper) (w : World) (p0 : ByteArray) (p1 : ByteArray) (p2 : ByteArray) (z3 : Int) (z4 : Int) (z5 : Int) (z6 : Int) (p7 : ByteArray) (ho : o.op = .build 50 #[(0, .tmp 44), (1, .tmp 47), (2, .tmp 50), (3, .tmp 53), (4, .tmp 56), (5, .tmp 59), (6, .tmp 60), (7, .tmp 63)]) (h0 : e (.tmp 44) = .string p0) (h1 : e (.tmp 47) = .string p1) (h2 : e (.tmp 50) = .string p2) (h3 : e (.tmp 53) = .int .i64 z3) (h4 : e (.tmp 56) = .int .i64 z4) (h5 : e (.tmp 59) = .int .i64 z5) (h6 : e (.tmp 60) = .int .i64 z6) (h7 : e (.tmp 63) = .string p7) :
   (execOp e o).run Tryz.prog w = .ok (.value (.agg #[.string p0, .string p1, .string p2, .int .i64 z3, .int .i64 z4, .int .i64 z5, .int .i64 z6, .string p7])) w := by
  unfold execOp
  rw [ho]
  simp only [List.map_toArray, List.map_cons, List.map_nil, h0, h1, h2, h3, h4, h5, h6, h7]
  kernel_rfl
set_option maxRecDepth 100000 in
set_option maxHeartbeats 16000000 in
theorem readRec_any (S : Nat) (w : World) (a : Vrec) (hg : RecGood a) (hab : RecB a) (hL : LibsW S w) (hS : S ≤ w.heap.size) :
    Calls Tryz.prog 66 #[.string ⟨(spaced (recW a)).toArray⟩] w (ReadR1 a w) := by
  obtain ⟨hwl, hfull, -⟩ := line_wordsR hg hab
  have hlen := (recT_len hg hab).1
  have HWO : Hid (∀ W, Below w.heap.size w W → Calls Tryz.prog 107 #[.string ⟨(spaced (recW a)).toArray⟩] W (WordsPost (recW a) W)) := fun W hW => by
    have := wordsBl_any (spaced (recW a)) (by omega) S W (hL.below hW hS)
    rw [hwl] at this
    exact this
  have hk1 := hg.how0
  have hk5 := hg.how1
  obtain ⟨hn1, hn2⟩ := nums_rec hg
  have HNU : Hid (∀ W g, StrAt W g 3 [Lib.itoa a.at_, Lib.itoa a.ring, Lib.itoa a.talk] → Calls Tryz.prog 108 #[.slice (some ⟨g, 3, none⟩) 3 5, .int .i64 15] W fun e w' => ∃ v, e = .returned (.tuple #[v, .bool true]) ∧ w'.ownsRow W.heap.size 3 1 v 3 [.int .i64 a.at_, .int .i64 a.ring, .int .i64 a.talk] ∧ Below W.heap.size W w') := fun W g hx => (numbers15_any [Lib.itoa a.at_, Lib.itoa a.ring, Lib.itoa a.talk] W g 3 5 (by show (3 : Nat) ≤ _; omega) (fun _ => hx) (fun i => by
      have hm := hg.mom
      unfold isMomB at hm
      simp only [Bool.and_eq_true, decide_eq_true_eq] at hm
      have q1 := itoa_lenR a.at_ hm.1 (by omega)
      have q2 := itoa_lenR a.ring hg.ring0 (by have := hg.ring1; omega)
      have q3 := itoa_lenR a.talk hg.talk0 (by have := hg.talk1; omega)
      match i with
      | 0 => show (Lib.itoa a.at_).length ≤ _; omega
      | 1 => show (Lib.itoa a.ring).length ≤ _; omega
      | 2 => show (Lib.itoa a.talk).length ≤ _; omega
      | j + 3 => show ([] : List UInt8).length ≤ _; simp)).mono fun e w' ⟨q1, _, q3⟩ => by
    obtain ⟨v, e1, e2⟩ := q1 hn1
    rw [hn2] at e2
    exact ⟨v, e1, e2, q3⟩
  have HID : Hid (∀ W g, (∀ j, j < 4 → W.cell? ⟨g, j, none⟩ = some (.string ⟨(wordsR.getD j []).toArray⟩)) → Calls Tryz.prog 109 #[.slice (some ⟨g, 0, none⟩) 4 4, .string ⟨(howW a.how).toArray⟩] W fun e w' => e = .returned (.int .i64 (a.how - 1)) ∧ W = w') := fun W g hc => idxWR_any W g a.how hk1 hk5 hc
  have HVAL : Hid (a.val = .agg #[.string ⟨a.id.toArray⟩, .string ⟨a.frm.toArray⟩, .string ⟨a.to_.toArray⟩, .int .i64 a.at_, .int .i64 a.ring, .int .i64 a.talk, .int .i64 a.how, .string ⟨a.car.toArray⟩]) := rfl
  have HAW : Hid (recW a = [a.id, a.frm, a.to_, Lib.itoa a.at_, Lib.itoa a.ring, Lib.itoa a.talk, howW a.how, carW a.car]) := rfl
  have HCN := Lib.hid (car_not hab.car)
  have HFU := Lib.hid hfull
  generalize spaced (recW a) = SP at HWO ⊢
  obtain ⟨AW, hAW⟩ : ∃ AW, AW = recW a := ⟨_, rfl⟩
  rw [← hAW] at HWO HAW HFU
  have HAL : Hid (AW.length = 8) := by show _ = _; rw [HAW.out]; rfl
  clear hAW hwl hlen hL hab hfull hg hn1 hn2
  have HZ : Hid (Blk (w.alloc (.cells #[.string ⟨#[]⟩, .string ⟨#[]⟩, .string ⟨#[]⟩, .int .i64 0, .int .i64 0, .int .i64 0, .int .i64 0, .string ⟨#[]⟩] 50)) w.heap.size [.string ⟨#[]⟩, .string ⟨#[]⟩, .string ⟨#[]⟩, .int .i64 0, .int .i64 0, .int .i64 0, .int .i64 0, .string ⟨#[]⟩] 50) := Blk.new _ _ _
  have HB1 : Hid (Below w.heap.size w (w.alloc (.cells #[.string ⟨#[]⟩, .string ⟨#[]⟩, .string ⟨#[]⟩, .int .i64 0, .int .i64 0, .int .i64 0, .int .i64 0, .string ⟨#[]⟩] 50))) := ext_alloc (Below.refl _ _)
  obtain ⟨R, hR⟩ : ∃ R, R = w.heap.size := ⟨_, rfl⟩
  have HRW : Hid (w.heap.size ≤ R) := Nat.le_of_eq hR.symm
  unfold ReadR1
  rw [HVAL.out]
  obtain ⟨xi, x1, x2, x3, x4, x5, x6, x7⟩ := a
  have HCN : Hid (x7 ≠ [45]) := HCN
  have hk1 : 1 ≤ x6 := hk1
  have hk5 : x6 ≤ 4 := hk5
  simp only at HNU HID HAW HVAL ⊢
  generalize Lib.itoa x3 = A3 at HNU HAW
  generalize Lib.itoa x4 = A4 at HNU HAW
  generalize Lib.itoa x5 = A5 at HNU HAW
  generalize howW x6 = kW at HID HAW
  obtain ⟨cW, hcW⟩ : ∃ c, c = carW x7 := ⟨_, rfl⟩
  rw [← hcW] at HAW
  have HCW := Lib.hid hcW
  have hwx : IntKind.i64.wrap (x6 - 1 + 1) = x6 := by rw [show x6 - 1 + 1 = x6 by omega]; exact IntWalk.i64_in _ (by omega)
  have hwx2 : IntKind.i64.wrap x6 = x6 := IntWalk.i64_in _ (by omega)
  have hx60 : (x6 == 0) = false := by simp; omega
  clear hcW HVAL
  go_enter Tryz.func66, Tryz.ntmps66
  go_upto_region 1 with (fail)
  generalize (w.alloc (.cells #[.string ⟨#[]⟩, .string ⟨#[]⟩, .string ⟨#[]⟩, .int .i64 0, .int .i64 0, .int .i64 0, .int .i64 0, .string ⟨#[]⟩] 50)) = w1 at HZ HB1 ⊢
  rw [← hR] at HZ ⊢
  clear hR
  as_aux_lemma =>
    go_wp2_with fail
    refine (HWO.out _ HB1.out).mono ?_
    rintro e w2 ⟨hwf, -, hb⟩
    obtain ⟨g, rfl, hrow⟩ := hwf HFU.out
    rw [HAL.out, HAW.out] at hrow
    rw [HAL.out]
    have HR2 := Lib.hid (HZ.out.below hb)
    have HB2 := Lib.hid (ext_trans HB1.out hb)
    have hgl : g < w2.heap.size := (hrow.lt g rfl).2
    have HWC : Hid (∀ W, Below w2.heap.size w2 W → W.cell? ⟨g, 0, none⟩ = some (.string ⟨xi.toArray⟩) ∧ W.cell? ⟨g, 1, none⟩ = some (.string ⟨x1.toArray⟩) ∧ W.cell? ⟨g, 2, none⟩ = some (.string ⟨x2.toArray⟩) ∧ W.cell? ⟨g, 3, none⟩ = some (.string ⟨A3.toArray⟩) ∧ W.cell? ⟨g, 4, none⟩ = some (.string ⟨A4.toArray⟩) ∧ W.cell? ⟨g, 5, none⟩ = some (.string ⟨A5.toArray⟩) ∧ W.cell? ⟨g, 6, none⟩ = some (.string ⟨kW.toArray⟩) ∧ W.cell? ⟨g, 7, none⟩ = some (.string ⟨cW.toArray⟩)) := fun W hW => by
      have h9 := own_keep hrow hW
      refine ⟨(h9.cellAt 0 (by show (0 : Nat) < 8; omega)).trans rfl, (h9.cellAt 1 (by show (1 : Nat) < 8; omega)).trans rfl, (h9.cellAt 2 (by show (2 : Nat) < 8; omega)).trans rfl, (h9.cellAt 3 (by show (3 : Nat) < 8; omega)).trans rfl, (h9.cellAt 4 (by show (4 : Nat) < 8; omega)).trans rfl, (h9.cellAt 5 (by show (5 : Nat) < 8; omega)).trans rfl, (h9.cellAt 6 (by show (6 : Nat) < 8; omega)).trans rfl, (h9.cellAt 7 (by show (7 : Nat) < 8; omega)).trans rfl⟩
    have HSA : Hid (StrAt w2 g 3 [A3, A4, A5]) := ⟨hgl, fun j hj => by
      obtain ⟨k0, k1, k2, k3, k4, k5, k6, k7⟩ := HWC.out w2 (Below.refl _ _)
      match j, hj with
      | 0, _ => exact k3
      | 1, _ => exact k4
      | 2, _ => exact k5⟩
    clear hwf hb HZ HB1 HWO HFU HAW HAL hrow
    as_aux_lemma =>
      go_wp2_with fail
      refine (HNU.out _ g HSA.out).mono ?_
      rintro e w3 ⟨v6, rfl, hn6, hb⟩
      obtain ⟨na, nc, rfl⟩ := own_shape hn6
      obtain ⟨g6, rfl, hg60, hg61⟩ := own_pos hn6 (by decide)
      have HNC : Hid (∀ W, Below w3.heap.size w3 W → W.cell? ⟨g6, 0, none⟩ = some (.int .i64 x3) ∧ W.cell? ⟨g6, 1, none⟩ = some (.int .i64 x4) ∧ W.cell? ⟨g6, 2, none⟩ = some (.int .i64 x5)) := fun W hW => by
        have h9 := own_keep hn6 hW
        exact ⟨(h9.cellAt 0 (by decide)).trans rfl, (h9.cellAt 1 (by decide)).trans rfl, (h9.cellAt 2 (by decide)).trans rfl⟩
      have HR3 := Lib.hid (HR2.out.below hb)
      have HB3 := Lib.hid (ext_trans HB2.out hb)
      have HW3 : Hid (Below w2.heap.size w2 w3) := hb
      clear hb hn6 HR2 HB2 HSA HNU
      as_aux_lemma =>
        go_upto_region 5 with (fail)
        have hd : Below w3.heap.size w3 w3.drew := ext_drew (Below.refl _ _)
        have HR4 := Lib.hid (HR3.out.below hd)
        have HB4 := Lib.hid (ext_trans HB3.out hd)
        have HW4 := Lib.hid (ext_trans HW3.out hd)
        have HV4 := Lib.hid hd
        clear hd HR3 HB3 HW3
        refine region_seqI (S := fun W9 => Below w3.drew.heap.size w3.drew W9) [(true, 1), (true, 2), (true, 3), (false, 0), (false, 4), (true, 5), (true, 6)] (by kernel_rfl) (by kernel_rfl) rfl (by kernel_rfl) (Below.refl _ _) ?_
        generalize w3.drew = wd at HR4 HB4 HW4 HV4 ⊢
        simp only [seqOps, List.getD_cons_zero, List.getD_cons_succ]
        refine seqI_take (v := .slice (some ⟨g, 0, none⟩) 8 8) rfl (fun W9 hW => by clear hW; go_simp) (fun _ _ _ h => h) ?_
        simp only [Act.put, List.setIfInBounds_toArray, List.set_cons_zero, List.set_cons_succ]
        refine seqI_take (v := .pointer (some ⟨g, 6, none⟩)) rfl (fun W9 hW => by clear hW; go_simp) (fun _ _ _ h => h) ?_
        simp only [Act.put, List.setIfInBounds_toArray, List.set_cons_zero, List.set_cons_succ]
        refine seqI_take (v := .string ⟨kW.toArray⟩) rfl (fun W9 hW => by obtain ⟨k0, k1, k2, k3, k4, k5, k6, k7⟩ := HWC.out W9 (ext_trans HW4.out hW); clear hW; go_simp) (fun _ _ _ h => h) ?_
        simp only [Act.put, List.setIfInBounds_toArray, List.set_cons_zero, List.set_cons_succ]
        refine seqI_call _ _ rfl (by go_simp) (wordsR_any wd) ?_
        rintro e w5 ⟨rfl, hw5⟩
        have hb5 : Below wd.heap.size wd w5 := by rw [hw5]; exact ext_alloc (Below.refl _ _)
        have hbk : Blk w5 wd.heap.size (wordsR.map encS) 9 := by rw [hw5]; exact Blk.new _ _ _
        have HIX := Lib.hid (HID.out w5 wd.heap.size (fun j hj => hbk.cell j (by
          rw [List.getElem?_map, List.getElem?_eq_getElem (show j < wordsR.length by show j < 4; omega), List.getD_eq_getElem?_getD, List.getElem?_eq_getElem (show j < wordsR.length by show j < 4; omega)]
          rfl)))
        clear hw5 hbk
        refine ⟨_, rfl, hb5, ?_⟩
        simp only [Act.put, List.setIfInBounds_toArray, List.set_cons_zero, List.set_cons_succ]
        refine seqI_call _ _ rfl (by go_simp) HIX.out ?_
        rintro e w6 ⟨rfl, hw6⟩
        subst hw6
        refine ⟨_, rfl, hb5, ?_⟩
        simp only [Act.put, List.setIfInBounds_toArray, List.set_cons_zero, List.set_cons_succ]
        refine seqI_take (v := .int .i64 x6) rfl (fun W9 hW => by clear hW; go_simp) (fun _ _ _ h => h) ?_
        simp only [Act.put, List.setIfInBounds_toArray, List.set_cons_zero, List.set_cons_succ]
        refine seqI_take (v := .int .i64 x6) rfl (fun W9 hW => by clear hW; go_simp) (fun _ _ _ h => h) ?_
        simp only [Act.put, List.setIfInBounds_toArray, List.set_cons_zero, List.set_cons_succ]
        refine seqI_nil ?_
        have HR5 := Lib.hid (HR4.out.below hb5)
        have HB5 := Lib.hid (ext_trans HB4.out hb5)
        have HW5 := Lib.hid (ext_trans HW4.out hb5)
        have HV5 := Lib.hid (ext_trans HV4.out hb5)
        clear hb5 HIX HID HR4 HB4 HW4 HV4
        as_aux_lemma =>
          go_upto_region 8 with (fail)
          have hd : Below w5.heap.size w5 w5.drew := ext_drew (Below.refl _ _)
          have HR6 := Lib.hid (HR5.out.below hd)
          have HB6 := Lib.hid (ext_trans HB5.out hd)
          have HW6 := Lib.hid (ext_trans HW5.out hd)
          have HV6 := Lib.hid (ext_trans HV5.out hd)
          clear hd HR5 HB5 HW5 HV5
          refine region_seqI (S := fun W9 => Below w2.heap.size w2 W9 ∧ Below w3.heap.size w3 W9) [(true, 0), (true, 1), (true, 2), (true, 3), (true, 4), (true, 5), (true, 6), (true, 7), (true, 8), (true, 9), (true, 10), (true, 11), (true, 12), (true, 13), (true, 14), (true, 15), (true, 16), (true, 17), (true, 18), (true, 19), (true, 20), (true, 21), (true, 22), (false, 23), (false, 24)] (by kernel_rfl) (by kernel_rfl) rfl (by kernel_rfl) ⟨HW6.out, HV6.out⟩ ?_
          generalize w5.drew = wd at HR6 HB6 HW6 HV6 ⊢
          simp only [seqOps, List.getD_cons_zero, List.getD_cons_succ]
          refine seqI_take (v := .slice (some ⟨g, 0, none⟩) 8 8) rfl (fun W9 hW => by clear hW; go_simp) (fun _ _ _ h => h) ?_
          simp only [Act.put, List.setIfInBounds_toArray, List.set_cons_zero, List.set_cons_succ]
          refine seqI_take (v := .pointer (some ⟨g, 0, none⟩)) rfl (fun W9 hW => by clear hW; go_simp) (fun _ _ _ h => h) ?_
          simp only [Act.put, List.setIfInBounds_toArray, List.set_cons_zero, List.set_cons_succ]
          refine seqI_take (v := .string ⟨xi.toArray⟩) rfl (fun W9 hW => by obtain ⟨k0, k1, k2, k3, k4, k5, k6, k7⟩ := HWC.out W9 hW.1; clear hW; go_simp) (fun _ _ _ h => h) ?_
          simp only [Act.put, List.setIfInBounds_toArray, List.set_cons_zero, List.set_cons_succ]
          refine seqI_take (v := .slice (some ⟨g, 0, none⟩) 8 8) rfl (fun W9 hW => by clear hW; go_simp) (fun _ _ _ h => h) ?_
          simp only [Act.put, List.setIfInBounds_toArray, List.set_cons_zero, List.set_cons_succ]
          refine seqI_take (v := .pointer (some ⟨g, 1, none⟩)) rfl (fun W9 hW => by clear hW; go_simp) (fun _ _ _ h => h) ?_
          simp only [Act.put, List.setIfInBounds_toArray, List.set_cons_zero, List.set_cons_succ]
          refine seqI_take (v := .string ⟨x1.toArray⟩) rfl (fun W9 hW => by obtain ⟨k0, k1, k2, k3, k4, k5, k6, k7⟩ := HWC.out W9 hW.1; clear hW; go_simp) (fun _ _ _ h => h) ?_
          simp only [Act.put, List.setIfInBounds_toArray, List.set_cons_zero, List.set_cons_succ]
          refine seqI_take (v := .slice (some ⟨g, 0, none⟩) 8 8) rfl (fun W9 hW => by clear hW; go_simp) (fun _ _ _ h => h) ?_
          simp only [Act.put, List.setIfInBounds_toArray, List.set_cons_zero, List.set_cons_succ]
          refine seqI_take (v := .pointer (some ⟨g, 2, none⟩)) rfl (fun W9 hW => by clear hW; go_simp) (fun _ _ _ h => h) ?_
          simp only [Act.put, List.setIfInBounds_toArray, List.set_cons_zero, List.set_cons_succ]
          refine seqI_take (v := .string ⟨x2.toArray⟩) rfl (fun W9 hW => by obtain ⟨k0, k1, k2, k3, k4, k5, k6, k7⟩ := HWC.out W9 hW.1; clear hW; go_simp) (fun _ _ _ h => h) ?_
          simp only [Act.put, List.setIfInBounds_toArray, List.set_cons_zero, List.set_cons_succ]
          refine seqI_take (v := .slice (some ⟨g6, 0, none⟩) 3 nc) rfl (fun W9 hW => by clear hW; go_simp) (fun _ _ _ h => h) ?_
          simp only [Act.put, List.setIfInBounds_toArray, List.set_cons_zero, List.set_cons_succ]
          refine seqI_take (v := .pointer (some ⟨g6, 0, none⟩)) rfl (fun W9 hW => by clear hW; go_simp) (fun _ _ _ h => h) ?_
          simp only [Act.put, List.setIfInBounds_toArray, List.set_cons_zero, List.set_cons_succ]
          refine seqI_take (v := .int .i64 x3) rfl (fun W9 hW => by obtain ⟨m0, m1, m2⟩ := HNC.out W9 hW.2; clear hW; go_simp) (fun _ _ _ h => h) ?_
          simp only [Act.put, List.setIfInBounds_toArray, List.set_cons_zero, List.set_cons_succ]
          refine seqI_take (v := .slice (some ⟨g6, 0, none⟩) 3 nc) rfl (fun W9 hW => by clear hW; go_simp) (fun _ _ _ h => h) ?_
          simp only [Act.put, List.setIfInBounds_toArray, List.set_cons_zero, List.set_cons_succ]
          refine seqI_take (v := .pointer (some ⟨g6, 1, none⟩)) rfl (fun W9 hW => by clear hW; go_simp) (fun _ _ _ h => h) ?_
          simp only [Act.put, List.setIfInBounds_toArray, List.set_cons_zero, List.set_cons_succ]
          refine seqI_take (v := .int .i64 x4) rfl (fun W9 hW => by obtain ⟨m0, m1, m2⟩ := HNC.out W9 hW.2; clear hW; go_simp) (fun _ _ _ h => h) ?_
          simp only [Act.put, List.setIfInBounds_toArray, List.set_cons_zero, List.set_cons_succ]
          refine seqI_take (v := .slice (some ⟨g6, 0, none⟩) 3 nc) rfl (fun W9 hW => by clear hW; go_simp) (fun _ _ _ h => h) ?_
          simp only [Act.put, List.setIfInBounds_toArray, List.set_cons_zero, List.set_cons_succ]
          refine seqI_take (v := .pointer (some ⟨g6, 2, none⟩)) rfl (fun W9 hW => by clear hW; go_simp) (fun _ _ _ h => h) ?_
          simp only [Act.put, List.setIfInBounds_toArray, List.set_cons_zero, List.set_cons_succ]
          refine seqI_take (v := .int .i64 x5) rfl (fun W9 hW => by obtain ⟨m0, m1, m2⟩ := HNC.out W9 hW.2; clear hW; go_simp) (fun _ _ _ h => h) ?_
          simp only [Act.put, List.setIfInBounds_toArray, List.set_cons_zero, List.set_cons_succ]
          refine seqI_take (v := .int .i64 x6) rfl (fun W9 hW => by clear hW; go_simp) (fun _ _ _ h => h) ?_
          simp only [Act.put, List.setIfInBounds_toArray, List.set_cons_zero, List.set_cons_succ]
          refine seqI_take (v := .slice (some ⟨g, 0, none⟩) 8 8) rfl (fun W9 hW => by clear hW; go_simp) (fun _ _ _ h => h) ?_
          simp only [Act.put, List.setIfInBounds_toArray, List.set_cons_zero, List.set_cons_succ]
          refine seqI_take (v := .pointer (some ⟨g, 7, none⟩)) rfl (fun W9 hW => by clear hW; go_simp) (fun _ _ _ h => h) ?_
          simp only [Act.put, List.setIfInBounds_toArray, List.set_cons_zero, List.set_cons_succ]
          refine seqI_take (v := .string ⟨cW.toArray⟩) rfl (fun W9 hW => by obtain ⟨k0, k1, k2, k3, k4, k5, k6, k7⟩ := HWC.out W9 hW.1; clear hW; go_simp) (fun _ _ _ h => h) ?_
          simp only [Act.put, List.setIfInBounds_toArray, List.set_cons_zero, List.set_cons_succ]
          refine seqI_take (v := .agg #[.string ⟨xi.toArray⟩, .string ⟨x1.toArray⟩, .string ⟨x2.toArray⟩, .int .i64 x3, .int .i64 x4, .int .i64 x5, .int .i64 x6, .string ⟨cW.toArray⟩]) rfl (fun W9 hW => by clear hW; exact build_rec8 _ _ _ _ _ _ _ _ _ _ _ rfl rfl rfl rfl rfl rfl rfl rfl rfl) (fun _ _ _ h => h) ?_
          simp only [Act.put, List.setIfInBounds_toArray, List.set_cons_zero, List.set_cons_succ]
          have hA : Below wd.heap.size wd (wd.alloc (.cells #[.string ⟨#[]⟩, .string ⟨#[]⟩, .string ⟨#[]⟩, .int .i64 0, .int .i64 0, .int .i64 0, .int .i64 0, .string ⟨#[]⟩] 50)) := ext_alloc (Below.refl _ _)
          refine seqI_do rfl (wp_valA (w' := (wd.alloc (.cells #[.string ⟨#[]⟩, .string ⟨#[]⟩, .string ⟨#[]⟩, .int .i64 0, .int .i64 0, .int .i64 0, .int .i64 0, .string ⟨#[]⟩] 50))) (v := .pointer (some ⟨wd.heap.size, 0, none⟩)) (by go_simp) ⟨⟨ext_trans HW6.out hA, ext_trans HV6.out hA⟩, ?_⟩)
          simp only [Act.put, List.setIfInBounds_toArray, List.set_cons_zero, List.set_cons_succ]
          have hz : Blk (wd.alloc (.cells #[.string ⟨#[]⟩, .string ⟨#[]⟩, .string ⟨#[]⟩, .int .i64 0, .int .i64 0, .int .i64 0, .int .i64 0, .string ⟨#[]⟩] 50)) wd.heap.size [.string ⟨#[]⟩, .string ⟨#[]⟩, .string ⟨#[]⟩, .int .i64 0, .int .i64 0, .int .i64 0, .int .i64 0, .string ⟨#[]⟩] 50 := Blk.new _ _ _
          have hSt : Below wd.heap.size wd ((wd.alloc (.cells #[.string ⟨#[]⟩, .string ⟨#[]⟩, .string ⟨#[]⟩, .int .i64 0, .int .i64 0, .int .i64 0, .int .i64 0, .string ⟨#[]⟩] 50)).setCells wd.heap.size 0 [.string ⟨xi.toArray⟩, .string ⟨x1.toArray⟩, .string ⟨x2.toArray⟩, .int .i64 x3, .int .i64 x4, .int .i64 x5, .int .i64 x6, .string ⟨cW.toArray⟩]) := belowR (Nat.le_refl _) hA _ _
          refine seqI_do rfl (wp_store_mid 50 (.tmp 9) (.tmp 64) rfl wd.heap.size 0 #[.string ⟨xi.toArray⟩, .string ⟨x1.toArray⟩, .string ⟨x2.toArray⟩, .int .i64 x3, .int .i64 x4, .int .i64 x5, .int .i64 x6, .string ⟨cW.toArray⟩] rfl rfl (hz.th 8 (Nat.le_refl 8)) Tryz.recSz (by simp [Value.oneCell']) ⟨⟨ext_trans HW6.out hSt, ext_trans HV6.out hSt⟩, ?_⟩)
          simp only [Act.put, List.setIfInBounds_toArray, List.set_cons_zero, List.set_cons_succ]
          refine seqI_nil ?_
          have X7 : Hid (Blk ((wd.alloc (.cells #[.string ⟨#[]⟩, .string ⟨#[]⟩, .string ⟨#[]⟩, .int .i64 0, .int .i64 0, .int .i64 0, .int .i64 0, .string ⟨#[]⟩] 50)).setCells wd.heap.size 0 [.string ⟨xi.toArray⟩, .string ⟨x1.toArray⟩, .string ⟨x2.toArray⟩, .int .i64 x3, .int .i64 x4, .int .i64 x5, .int .i64 x6, .string ⟨cW.toArray⟩]) wd.heap.size [.string ⟨xi.toArray⟩, .string ⟨x1.toArray⟩, .string ⟨x2.toArray⟩, .int .i64 x3, .int .i64 x4, .int .i64 x5, .int .i64 x6, .string ⟨cW.toArray⟩] 50) := blkSet8 hz
          have HR7 := Lib.hid (HR6.out.below hSt)
          have HB7 := Lib.hid (ext_trans HB6.out hSt)
          have HNE : Hid (wd.heap.size ≠ R) := by have := HR6.out.lt; show _ ≠ _; omega
          have HXW : Hid (w.heap.size ≤ wd.heap.size) := HB6.out.size
          clear hA hz hSt HR6 HB6 HW6 HV6 HWC HNC
          generalize ((wd.alloc (.cells #[.string ⟨#[]⟩, .string ⟨#[]⟩, .string ⟨#[]⟩, .int .i64 0, .int .i64 0, .int .i64 0, .int .i64 0, .string ⟨#[]⟩] 50)).setCells wd.heap.size 0 [.string ⟨xi.toArray⟩, .string ⟨x1.toArray⟩, .string ⟨x2.toArray⟩, .int .i64 x3, .int .i64 x4, .int .i64 x5, .int .i64 x6, .string ⟨cW.toArray⟩]) = w7 at X7 HR7 HB7 ⊢
          generalize wd.heap.size = XB at X7 HNE HXW ⊢
          have c7 := X7.out.cell 7 rfl
          have cf := X7.out.fr 7
          cases x7 with
          | nil =>
            have HCE : Hid (cW = [45]) := by show _ = _; rw [HCW.out]; rfl
            have hce := HCE.out
            subst hce
            clear HCE HCW HCN
            have Xz : Hid (Blk (w7.setCell ⟨XB, 7, none⟩ (.string ⟨#[]⟩)) XB [.string ⟨xi.toArray⟩, .string ⟨x1.toArray⟩, .string ⟨x2.toArray⟩, .int .i64 x3, .int .i64 x4, .int .i64 x5, .int .i64 x6, .string ⟨#[]⟩] 50) := X7.out.put 7 _
            have HRz : Hid (Blk (w7.setCell ⟨XB, 7, none⟩ (.string ⟨#[]⟩)) R [.string ⟨#[]⟩, .string ⟨#[]⟩, .string ⟨#[]⟩, .int .i64 0, .int .i64 0, .int .i64 0, .int .i64 0, .string ⟨#[]⟩] 50) := HR7.out.far HNE.out
            have HBz : Hid (Below w.heap.size w (w7.setCell ⟨XB, 7, none⟩ (.string ⟨#[]⟩))) := belowR HXW.out HB7.out [.string ⟨#[]⟩] 7
            as_aux_lemma =>
              go_upto_region 11 with (fail)
              clear c7 cf X7 HR7 HB7
              generalize (w7.setCell ⟨XB, 7, none⟩ (.string ⟨#[]⟩)) = wz at Xz HRz HBz ⊢
              have HTH : Hid (wz.there R 0 8) := HRz.out.th 8 (Nat.le_refl 8)
              have HRG : Hid (wz.rangeAt XB 0 [.string ⟨xi.toArray⟩, .string ⟨x1.toArray⟩, .string ⟨x2.toArray⟩, .int .i64 x3, .int .i64 x4, .int .i64 x5, .int .i64 x6, .string ⟨#[]⟩]) := fun j v hj => by rw [Nat.zero_add]; exact Xz.out.cell j hj
              have HRE : Hid (Blk (wz.setCells R 0 [.string ⟨xi.toArray⟩, .string ⟨x1.toArray⟩, .string ⟨x2.toArray⟩, .int .i64 x3, .int .i64 x4, .int .i64 x5, .int .i64 x6, .string ⟨#[]⟩]) R [.string ⟨xi.toArray⟩, .string ⟨x1.toArray⟩, .string ⟨x2.toArray⟩, .int .i64 x3, .int .i64 x4, .int .i64 x5, .int .i64 x6, .string ⟨#[]⟩] 50) := blkSet8 HRz.out
              have HBE : Hid (Below w.heap.size w (wz.setCells R 0 [.string ⟨xi.toArray⟩, .string ⟨x1.toArray⟩, .string ⟨x2.toArray⟩, .int .i64 x3, .int .i64 x4, .int .i64 x5, .int .i64 x6, .string ⟨#[]⟩])) := belowR HRW.out HBz.out _ _
              clear Xz HRz HBz
              as_aux_lemma =>
                go_wp2_with (first | (refine wpList_load_mid rfl 50 (.tmp 9) rfl XB 0 rfl [.string ⟨xi.toArray⟩, .string ⟨x1.toArray⟩, .string ⟨x2.toArray⟩, .int .i64 x3, .int .i64 x4, .int .i64 x5, .int .i64 x6, .string ⟨#[]⟩] _ HRG.out Tryz.underlying50 rfl Tryz.recSz ?_) | (refine wpList_store_mid rfl 50 (.tmp 2) (.tmp 69) rfl R 0 #[.string ⟨xi.toArray⟩, .string ⟨x1.toArray⟩, .string ⟨x2.toArray⟩, .int .i64 x3, .int .i64 x4, .int .i64 x5, .int .i64 x6, .string ⟨#[]⟩] rfl rfl HTH.out Tryz.recSz (by simp [Value.oneCell']) ?_; generalize (wz.setCells R 0 [.string ⟨xi.toArray⟩, .string ⟨x1.toArray⟩, .string ⟨x2.toArray⟩, .int .i64 x3, .int .i64 x4, .int .i64 x5, .int .i64 x6, .string ⟨#[]⟩]) = w9 at HRE HBE ⊢; clear HTH HRG))
                refine bodyPost_ret (?_ : _ = Result.ok (.tuple #[.agg #[.string ⟨xi.toArray⟩, .string ⟨x1.toArray⟩, .string ⟨x2.toArray⟩, .int .i64 x3, .int .i64 x4, .int .i64 x5, .int .i64 x6, .string ⟨#[]⟩], .bool true]) _) rfl ?_
                · exact results_cell2 (t := 2) (u := 3) (by rfl) _ _ _ Tryz.isAgg50 Tryz.sizeOf50 (by rfl) [.string ⟨xi.toArray⟩, .string ⟨x1.toArray⟩, .string ⟨x2.toArray⟩, .int .i64 x3, .int .i64 x4, .int .i64 x5, .int .i64 x6, .string ⟨#[]⟩] rfl (fun j v hj => HRE.out.cell j hj)
                exact ⟨rfl, HBE.out⟩
          | cons c cs =>
            have HCE : Hid (cW = c :: cs) := by show _ = _; rw [HCW.out]; rfl
            have hce := HCE.out
            subst hce
            have hcb : (c :: cs == [45]) = false := beq_eq_false_iff_ne.2 HCN.out
            clear HCE HCW HCN
            have Xz := X7
            have HRz := HR7
            have HBz := HB7
            as_aux_lemma =>
              go_upto_region 11 with (fail)
              clear c7 cf X7 HR7 HB7 hcb
              have HTH : Hid (w7.there R 0 8) := HRz.out.th 8 (Nat.le_refl 8)
              have HRG : Hid (w7.rangeAt XB 0 [.string ⟨xi.toArray⟩, .string ⟨x1.toArray⟩, .string ⟨x2.toArray⟩, .int .i64 x3, .int .i64 x4, .int .i64 x5, .int .i64 x6, .string ⟨(c :: cs).toArray⟩]) := fun j v hj => by rw [Nat.zero_add]; exact Xz.out.cell j hj
              have HRE : Hid (Blk (w7.setCells R 0 [.string ⟨xi.toArray⟩, .string ⟨x1.toArray⟩, .string ⟨x2.toArray⟩, .int .i64 x3, .int .i64 x4, .int .i64 x5, .int .i64 x6, .string ⟨(c :: cs).toArray⟩]) R [.string ⟨xi.toArray⟩, .string ⟨x1.toArray⟩, .string ⟨x2.toArray⟩, .int .i64 x3, .int .i64 x4, .int .i64 x5, .int .i64 x6, .string ⟨(c :: cs).toArray⟩] 50) := blkSet8 HRz.out
              have HBE : Hid (Below w.heap.size w (w7.setCells R 0 [.string ⟨xi.toArray⟩, .string ⟨x1.toArray⟩, .string ⟨x2.toArray⟩, .int .i64 x3, .int .i64 x4, .int .i64 x5, .int .i64 x6, .string ⟨(c :: cs).toArray⟩])) := belowR HRW.out HBz.out _ _
              clear Xz HRz HBz
              as_aux_lemma =>
                go_wp2_with (first | (refine wpList_load_mid rfl 50 (.tmp 9) rfl XB 0 rfl [.string ⟨xi.toArray⟩, .string ⟨x1.toArray⟩, .string ⟨x2.toArray⟩, .int .i64 x3, .int .i64 x4, .int .i64 x5, .int .i64 x6, .string ⟨(c :: cs).toArray⟩] _ HRG.out Tryz.underlying50 rfl Tryz.recSz ?_) | (refine wpList_store_mid rfl 50 (.tmp 2) (.tmp 69) rfl R 0 #[.string ⟨xi.toArray⟩, .string ⟨x1.toArray⟩, .string ⟨x2.toArray⟩, .int .i64 x3, .int .i64 x4, .int .i64 x5, .int .i64 x6, .string ⟨(c :: cs).toArray⟩] rfl rfl HTH.out Tryz.recSz (by simp [Value.oneCell']) ?_; generalize (w7.setCells R 0 [.string ⟨xi.toArray⟩, .string ⟨x1.toArray⟩, .string ⟨x2.toArray⟩, .int .i64 x3, .int .i64 x4, .int .i64 x5, .int .i64 x6, .string ⟨(c :: cs).toArray⟩]) = w9 at HRE HBE ⊢; clear HTH HRG))
                refine bodyPost_ret (?_ : _ = Result.ok (.tuple #[.agg #[.string ⟨xi.toArray⟩, .string ⟨x1.toArray⟩, .string ⟨x2.toArray⟩, .int .i64 x3, .int .i64 x4, .int .i64 x5, .int .i64 x6, .string ⟨(c :: cs).toArray⟩], .bool true]) _) rfl ?_
                · exact results_cell2 (t := 2) (u := 3) (by rfl) _ _ _ Tryz.isAgg50 Tryz.sizeOf50 (by rfl) [.string ⟨xi.toArray⟩, .string ⟨x1.toArray⟩, .string ⟨x2.toArray⟩, .int .i64 x3, .int .i64 x4, .int .i64 x5, .int .i64 x6, .string ⟨(c :: cs).toArray⟩] rfl (fun j v hj => HRE.out.cell j hj)
                exact ⟨rfl, HBE.out⟩
end Go.Proofs.YtleagenhnchjdaaGreatDoor

set_option linter.unusedVariables false
set_option linter.unusedSimpArgs false
namespace Go.Proofs.YtleagenhnchjdaaGreatDoor
open Go.RowKit

theorem stream_setQ {w : World} {S k Q i : Nat} {u : Value} (h : StreamOk w S k) (hQ : S < Q) : StreamOk (w.setCell ⟨Q, i, none⟩ u) S k := h.upto ⟨rfl, rfl, rfl, by simp, fun j hj => Below.heap_setCell _ _ _ _ (by show j ≠ Q; omega)⟩
theorem gb_set (w : World) (Q i : Nat) (u : Value) : w.grownBy (w.setCell ⟨Q, i, none⟩ u) (some Q) := ⟨rfl, rfl, rfl, by simp, fun j hj hn => Below.heap_setCell _ _ _ _ (by show j ≠ Q; rintro rfl; exact hn rfl)⟩
theorem own_set1 {w : World} {Q i base e size : Nat} {u v : Value} {n : Nat} {xs : List Value} (h : w.ownsRow base e size v n xs) (hn : v.ownBlock ≠ some Q) : (w.setCell ⟨Q, i, none⟩ u).ownsRow base e size v n xs := own_gb h (gb_set w Q i u) (fun b hb e => hn (by rw [hb, e]))
end Go.Proofs.YtleagenhnchjdaaGreatDoor

set_option linter.unusedVariables false
set_option linter.unusedSimpArgs false
namespace Go.Proofs.YtleagenhnchjdaaGreatDoor
open Go.RowKit

/-- What the lines of a text come to: the state, the number of the line that was wrong, whether none was. -/
inductive LinesTo {σ : Type} (step : σ → List UInt8 → σ × Bool) : σ → List UInt8 → Nat → σ × Nat × Bool → Prop
  | done (st : σ) (i : Nat) : LinesTo step st [] i (st, 0, true)
  | open_ (st : σ) (t : List UInt8) (i : Nat) (h : t ≠ []) (h1 : (Lib.cut t [10]).2.2 = false) : LinesTo step st t i (st, i, false)
  | stop (st : σ) (t : List UInt8) (i : Nat) (h : t ≠ []) (h1 : (Lib.cut t [10]).2.2 = true) (h2 : (step st (Lib.cut t [10]).1).2 = false) : LinesTo step st t i ((step st (Lib.cut t [10]).1).1, i, false)
  | next (st : σ) (t : List UInt8) (i : Nat) (res : σ × Nat × Bool) (h : t ≠ []) (h1 : (Lib.cut t [10]).2.2 = true) (h2 : (step st (Lib.cut t [10]).1).2 = true) (h3 : LinesTo step (step st (Lib.cut t [10]).1).1 (Lib.cut t [10]).2.1 (i + 1) res) : LinesTo step st t i res
theorem lines_same {σ : Type} {step : σ → List UInt8 → σ × Bool} {st : σ} {t : List UInt8} {i : Nat} {r1 r2 : σ × Nat × Bool} (h : LinesTo step st t i r1) : LinesTo step st t i r2 → r1 = r2 := by
  induction h with
  | done st i =>
    intro h2
    cases h2 with
    | done => rfl
    | open_ _ _ _ h _ => exact absurd rfl h
    | stop _ _ _ h _ _ => exact absurd rfl h
    | next _ _ _ _ h _ _ _ => exact absurd rfl h
  | open_ st t i h h1 =>
    intro h2
    cases h2 with
    | done => exact absurd rfl h
    | open_ => rfl
    | stop _ _ _ _ q _ => rw [h1] at q; cases q
    | next _ _ _ _ _ q _ _ => rw [h1] at q; cases q
  | stop st t i h h1 h3 =>
    intro h2
    cases h2 with
    | done => exact absurd rfl h
    | open_ _ _ _ _ q => rw [h1] at q; cases q
    | stop => rfl
    | next _ _ _ _ _ _ q _ => rw [h3] at q; cases q
  | next st t i res h h1 h3 h4 ih =>
    intro h2
    cases h2 with
    | done => exact absurd rfl h
    | open_ _ _ _ _ q => rw [h1] at q; cases q
    | stop _ _ _ _ _ q => rw [h3] at q; cases q
    | next _ _ _ _ _ _ _ q => exact ih q
theorem cutNl_len {t : List UInt8} (h : (Lib.cut t [10]).2.2 = true) : (Lib.cut t [10]).1.length + 1 + (Lib.cut t [10]).2.1.length = t.length := by
  unfold Lib.cut at h ⊢
  split
  · rename_i h0
    have hr := Lib.index_room t [10] h0
    simp only [List.length_take, List.length_drop, List.length_singleton] at hr ⊢
    omega
  · rename_i h0
    rw [if_neg h0] at h
    cases h
theorem cutNl_any (t : List UInt8) (ht : t.length ≤ 1000000) (S : Nat) (w : World) (hL : LibsW S w) : Calls Tryz.prog 106 #[.string ⟨t.toArray⟩, .string ⟨#[10]⟩] w fun e w' => e = .returned (.tuple #[.string ⟨(Lib.cut t [10]).1.toArray⟩, .string ⟨(Lib.cut t [10]).2.1.toArray⟩, .bool (Lib.cut t [10]).2.2]) ∧ Below w.heap.size w w' := by
  obtain ⟨m, hm⟩ := hL.max_
  refine (Tryz.strings_CutT ⟨t.toArray⟩ ⟨#[10]⟩ m w (by rw [size_l]; omega) hm).mono ?_
  rintro e w' ⟨rfl, n, rfl⟩
  exact ⟨rfl, ext_drewN (Below.refl _ _)⟩
def strLen : Value → Nat
  | .string s => s.size
  | _ => 0
end Go.Proofs.YtleagenhnchjdaaGreatDoor

set_option linter.unusedVariables false
set_option linter.unusedSimpArgs false
namespace Go.Proofs.YtleagenhnchjdaaGreatDoor
open Go.RowKit Go.Sort Go.Lib

/-- The records that were read so far, in the box. -/
def OutR (D : Nat) (M : List Vrec) (w : World) : Prop := ∃ v, Blk w D [v] 33 ∧ VrecRow w (D + 1) v M
theorem getD_memR {l : List Vrec} {i : Nat} (h : i < l.length) : l.getD i default ∈ l := by
  rw [List.getD_eq_getElem?_getD, List.getElem?_eq_getElem h]
  exact List.getElem_mem h
theorem recsT_cons (a : Vrec) (l : List Vrec) : recsT (a :: l) = spaced (recW a) ++ 10 :: recsT l := by
  unfold recsT recT
  simp
theorem bl_rr20 (e : Operand → Value) (he : ∀ v, e (.const v) = v) (o : Oper) (w : World) (i0 : Nat) (p0_0 : ByteArray) (p0_1 : ByteArray) (p0_2 : ByteArray) (z0_3 : Int) (z0_4 : Int) (z0_5 : Int) (z0_6 : Int) (p0_7 : ByteArray) (ho : o.op = .buildSlice 33 1 #[(0, .tmp i0)]) (h0 : e (.tmp i0) = .agg #[.string p0_0, .string p0_1, .string p0_2, .int .i64 z0_3, .int .i64 z0_4, .int .i64 z0_5, .int .i64 z0_6, .string p0_7]) :
   (execOp e o).run Tryz.prog w = .ok (.value (.slice (some ⟨w.heap.size, 0, none⟩) 1 1)) (w.alloc (.cells #[.string p0_0, .string p0_1, .string p0_2, .int .i64 z0_3, .int .i64 z0_4, .int .i64 z0_5, .int .i64 z0_6, .string p0_7] 50)) := by
  unfold execOp
  rw [ho]
  simp only [List.map_toArray, List.map_cons, List.map_nil, h0]
  kernel_rfl
set_option maxRecDepth 100000 in
set_option maxHeartbeats 16000000 in
theorem readr1_any (S : Nat) (w : World) (a : Vrec) (hg : RecGood a) (hab : RecB a) (hL : LibsW S w) (D : Nat) (hS : S ≤ D) (M : List Vrec) (hM : M.length ≤ 20) (hO : OutR D M w) :
    Calls Tryz.prog 65 #[.string ⟨(spaced (recW a)).toArray⟩, .pointer (some ⟨D, 0, none⟩)] w fun e w' => e = .returned (.bool true) ∧ OutR D (M ++ [a]) w' ∧ Below D w w' := by
  obtain ⟨i0, hi0, hz0, hz1, hz2⟩ := info_parts Tryz.recInfo
  obtain ⟨v, hD, hrow⟩ := hO
  have hDw := hD.lt
  have HRA := Lib.hid (readRec_any S w a hg hab hL (by omega))
  have HVA : a.val = .agg #[.string ⟨a.id.toArray⟩, .string ⟨a.frm.toArray⟩, .string ⟨a.to_.toArray⟩, .int .i64 a.at_, .int .i64 a.ring, .int .i64 a.talk, .int .i64 a.how, .string ⟨a.car.toArray⟩] := rfl
  have HD := Lib.hid hD
  have HR : Hid (w.ownsRow (D + 1) 50 8 v M.length ((M.map Vrec.cells).flatten)) := hrow
  have HCL : Hid (a.cells = [.string ⟨a.id.toArray⟩, .string ⟨a.frm.toArray⟩, .string ⟨a.to_.toArray⟩, .int .i64 a.at_, .int .i64 a.ring, .int .i64 a.talk, .int .i64 a.how, .string ⟨a.car.toArray⟩]) := rfl
  unfold ReadR1 at HRA
  rw [HVA] at HRA
  clear hg hab hL hD hrow HVA
  generalize spaced (recW a) = SP at HRA ⊢
  go_enter Tryz.func65, Tryz.ntmps65
  go_wp2_with fail
  refine HRA.out.mono ?_
  rintro e w2 ⟨rfl, hb⟩
  have HD2 := Lib.hid (HD.out.below hb)
  have HR2 := Lib.hid (own_keep HR.out hb)
  have HB2 : Hid (Below D w w2) := hb.mono (Nat.le_of_lt hDw)
  have hD2 : D < w2.heap.size := Nat.lt_of_lt_of_le hDw hb.size
  clear hb HD HR HRA
  have hA : Below w2.heap.size w2 (w2.alloc (.cells #[.string ⟨a.id.toArray⟩, .string ⟨a.frm.toArray⟩, .string ⟨a.to_.toArray⟩, .int .i64 a.at_, .int .i64 a.ring, .int .i64 a.talk, .int .i64 a.how, .string ⟨a.car.toArray⟩] 50)) := ext_alloc (Below.refl _ _)
  have X3 : Hid (Blk (w2.alloc (.cells #[.string ⟨a.id.toArray⟩, .string ⟨a.frm.toArray⟩, .string ⟨a.to_.toArray⟩, .int .i64 a.at_, .int .i64 a.ring, .int .i64 a.talk, .int .i64 a.how, .string ⟨a.car.toArray⟩] 50)) w2.heap.size [.string ⟨a.id.toArray⟩, .string ⟨a.frm.toArray⟩, .string ⟨a.to_.toArray⟩, .int .i64 a.at_, .int .i64 a.ring, .int .i64 a.talk, .int .i64 a.how, .string ⟨a.car.toArray⟩] 50) := Blk.new _ _ _
  have HD3 := Lib.hid (HD2.out.below hA)
  have HR3 := Lib.hid (own_keep HR2.out hA)
  have HB3 : Hid (Below D w (w2.alloc (.cells #[.string ⟨a.id.toArray⟩, .string ⟨a.frm.toArray⟩, .string ⟨a.to_.toArray⟩, .int .i64 a.at_, .int .i64 a.ring, .int .i64 a.talk, .int .i64 a.how, .string ⟨a.car.toArray⟩] 50))) := HB2.out.trans (hA.mono (Nat.le_of_lt hD2))
  have hD3 : D < (w2.alloc (.cells #[.string ⟨a.id.toArray⟩, .string ⟨a.frm.toArray⟩, .string ⟨a.to_.toArray⟩, .int .i64 a.at_, .int .i64 a.ring, .int .i64 a.talk, .int .i64 a.how, .string ⟨a.car.toArray⟩] 50)).heap.size := Nat.lt_of_lt_of_le hD2 hA.size
  clear hA HD2 HR2 HB2
  as_aux_lemma =>
    go_upto_region 2 with (fail)
    generalize (w2.alloc (.cells #[.string ⟨a.id.toArray⟩, .string ⟨a.frm.toArray⟩, .string ⟨a.to_.toArray⟩, .int .i64 a.at_, .int .i64 a.ring, .int .i64 a.talk, .int .i64 a.how, .string ⟨a.car.toArray⟩] 50)) = w3 at X3 HD3 HR3 HB3 hD3 ⊢
    generalize w2.heap.size = XB at X3 ⊢
    have HRG : Hid (w3.rangeAt XB 0 [.string ⟨a.id.toArray⟩, .string ⟨a.frm.toArray⟩, .string ⟨a.to_.toArray⟩, .int .i64 a.at_, .int .i64 a.ring, .int .i64 a.talk, .int .i64 a.how, .string ⟨a.car.toArray⟩]) := fun j v hj => by rw [Nat.zero_add]; exact X3.out.cell j hj
    obtain ⟨wn, hwn⟩ : ∃ w', w' = (w3.alloc (.cells #[.string ⟨a.id.toArray⟩, .string ⟨a.frm.toArray⟩, .string ⟨a.to_.toArray⟩, .int .i64 a.at_, .int .i64 a.ring, .int .i64 a.talk, .int .i64 a.how, .string ⟨a.car.toArray⟩] 50)) := ⟨_, rfl⟩
    have hbn : Below w3.heap.size w3 wn := by rw [hwn]; exact ext_alloc (Below.refl _ _)
    have HZN : Hid (Blk wn w3.heap.size [.string ⟨a.id.toArray⟩, .string ⟨a.frm.toArray⟩, .string ⟨a.to_.toArray⟩, .int .i64 a.at_, .int .i64 a.ring, .int .i64 a.talk, .int .i64 a.how, .string ⟨a.car.toArray⟩] 50) := by rw [hwn]; exact Blk.new _ _ _
    have HNW : Hid (∀ j u, ([.string ⟨a.id.toArray⟩, .string ⟨a.frm.toArray⟩, .string ⟨a.to_.toArray⟩, .int .i64 a.at_, .int .i64 a.ring, .int .i64 a.talk, .int .i64 a.how, .string ⟨a.car.toArray⟩] : List Value)[j]? = some u → wn.cell? ((⟨w3.heap.size, 0, none⟩ : Addr).add j) = some u) := fun j u hj => by
      rw [show (⟨w3.heap.size, 0, none⟩ : Addr).add j = ⟨w3.heap.size, j, none⟩ by cases j <;> simp [Addr.add]]
      exact HZN.out.cell j hj
    have HON := Lib.hid (own_keep HR3.out hbn)
    have HDN := Lib.hid (HD3.out.below hbn)
    have HBN : Hid (Below D w wn) := HB3.out.trans (hbn.mono (Nat.le_of_lt hD3))
    have HWN := Lib.hid hwn
    have HLM : Hid (M.length + 1 ≤ maxLen ∧ (M.length + 1) * 96 ≤ 140737488355328) := ⟨by unfold maxLen; omega, by omega⟩
    have hbw : D + 1 ≤ wn.heap.size := Nat.le_trans (by omega) hbn.size
    have d0 := HD3.out.cell 0 rfl
    have e0 := HDN.out.cell 0 rfl
    have ef := HDN.out.fr 0
    have HBW : Hid (D < w3.heap.size) := hD3
    clear hbn hwn HR3 HB3 X3
    as_aux_lemma =>
      go_wp2_with (first | (refine wpList_load_mid rfl 50 (.tmp 4) rfl XB 0 rfl [.string ⟨a.id.toArray⟩, .string ⟨a.frm.toArray⟩, .string ⟨a.to_.toArray⟩, .int .i64 a.at_, .int .i64 a.ring, .int .i64 a.talk, .int .i64 a.how, .string ⟨a.car.toArray⟩] _ HRG.out Tryz.underlying50 rfl Tryz.recSz ?_) | ((refine wpList_val rfl (bl_rr20 _ (fun _ => rfl) _ _ 12 ⟨a.id.toArray⟩ ⟨a.frm.toArray⟩ ⟨a.to_.toArray⟩ a.at_ a.ring a.talk a.how ⟨a.car.toArray⟩ rfl rfl) ?_)) | (at_builtin; rw [← HWN.out]; refine wpList_append_own _ rfl (.tmp 11) (.tmp 13) 33 rfl (D + 1) 50 i0 (.agg #[.string ⟨#[]⟩, .string ⟨#[]⟩, .string ⟨#[]⟩, .int .i64 0, .int .i64 0, .int .i64 0, .int .i64 0, .string ⟨#[]⟩]) 8 96 Tryz.underlying33 hi0 hz0 hz1 hz2 rfl (by decide) v M.length ((M.map Vrec.cells).flatten) rfl HON.out ⟨w3.heap.size, 0, none⟩ 1 1 [.string ⟨a.id.toArray⟩, .string ⟨a.frm.toArray⟩, .string ⟨a.to_.toArray⟩, .int .i64 a.at_, .int .i64 a.ring, .int .i64 a.talk, .int .i64 a.how, .string ⟨a.car.toArray⟩] rfl rfl HNW.out (by intro u hu; simp at hu; rcases hu with rfl | rfl | rfl | rfl | rfl | rfl | rfl | rfl <;> rfl) HLM.out.1 HLM.out.2 hbw ?_; intro vn wx hon hgn _; obtain ⟨va, vc, rfl⟩ := own_shape hon; have hxD := HDN.out.grown hgn (fun e => by have := (HON.out.lt D e).1; omega); have g0 := hxD.cell 0 rfl; have gf := hxD.fr 0; have HXD := Lib.hid hxD; have HON2 := Lib.hid hon; have HGN := Lib.hid hgn; clear hxD hon hgn))
      go_ret
      have hxv : ∀ b, v.ownBlock = some b → D + 1 ≤ b := fun b hb => (HON.out.lt b hb).1
      have hvn : (Value.slice va (M.length + 1) vc).ownBlock ≠ some D := fun e => by have := (HON2.out.lt D e).1; omega
      refine ⟨rfl, ⟨_, HXD.out.put 0 _, ?_⟩, ?_⟩
      · show VrecRow _ _ _ _
        unfold VrecRow
        rw [List.map_append, List.flatten_append, List.length_append]
        exact own_set1 HON2.out hvn
      · have h1 : Below D w wx := HBN.out.grown HGN.out (Nat.le_trans (by omega) hbw) (fun b hb => by have := hxv b hb; omega)
        have hg := gb_set wx D 0 (.slice va (M.length + 1) vc)
        exact h1.grown hg (Nat.le_trans (Nat.le_trans (by omega) hbw) HGN.out.size) (fun b hb => by injection hb with hb; omega)
set_option maxRecDepth 100000 in
set_option maxHeartbeats 16000000 in
theorem linesRec_any (S : Nat) (w : World) (x : List Vrec) (hok : RecsOk x) (hab : ∀ a ∈ x, RecB a) (hl : x.length ≤ 20) (hL : LibsW S w) (D : Nat) (hS : S ≤ D) (hO : OutR D [] w) :
    Calls Tryz.prog 64 #[.string ⟨(recsT x).toArray⟩, .func (.func 65) #[] #[.pointer (some ⟨D, 0, none⟩)]] w fun e w' => e = .returned (.tuple #[.int .i64 0, .bool true]) ∧ OutR D x w' ∧ Below D w w' := by
  have HTL := Lib.hid (fun j (hj : j ≤ x.length) => (show (recsT (x.drop j)).length ≤ 100000 by
    have h9 := recsT_len (hok.sub (List.drop_sublist j x)) (fun a ha => hab a (List.mem_of_mem_drop ha)) _ (Nat.le_refl _)
    rw [List.take_length] at h9
    have : (x.drop j).length ≤ 20 := by rw [List.length_drop]; omega
    omega))
  have HR1 : Hid (∀ j, j < x.length → ∀ W, Below D w W → OutR D (x.take j) W → Calls Tryz.prog 65 #[.string ⟨(spaced (recW (x.getD j default))).toArray⟩, .pointer (some ⟨D, 0, none⟩)] W fun e w' => e = .returned (.bool true) ∧ OutR D (x.take (j + 1)) w' ∧ Below D W w') := fun j hj W hW hO => by
    have h9 := readr1_any S W (x.getD j default) (hok.good _ (getD_memR hj)) (hab _ (getD_memR hj)) (hL.below hW hS) D hS (x.take j) (by rw [List.length_take]; omega) hO
    have e : x.take j ++ [x.getD j default] = x.take (j + 1) := by
      rw [List.take_add_one, List.getElem?_eq_getElem hj, List.getD_eq_getElem?_getD, List.getElem?_eq_getElem hj]
      rfl
    rw [e] at h9
    exact h9
  have HCU : Hid (∀ j, j < x.length → ∀ W, Below D w W → Calls Tryz.prog 106 #[.string ⟨(recsT (x.drop j)).toArray⟩, .string ⟨#[10]⟩] W fun e w' => e = .returned (.tuple #[.string ⟨(spaced (recW (x.getD j default))).toArray⟩, .string ⟨(recsT (x.drop (j + 1))).toArray⟩, .bool true]) ∧ Below W.heap.size W w') := fun j hj W hW => by
    have e : recsT (x.drop j) = spaced (recW (x.getD j default)) ++ 10 :: recsT (x.drop (j + 1)) := by
      rw [List.drop_eq_getElem_cons hj, recsT_cons, List.getD_eq_getElem?_getD, List.getElem?_eq_getElem hj]
      rfl
    have hc := cut_line (recsT (x.drop (j + 1))) (line_wordsR (hok.good _ (getD_memR hj)) (hab _ (getD_memR hj))).2.2
    have h9 := cutNl_any (recsT (x.drop j)) (by have := HTL.out j (by omega); omega) S W (hL.below hW hS)
    rw [e, hc] at h9
    rw [e]
    exact h9
  have HNE : Hid (∀ j, j < x.length → recsT (x.drop j) ≠ []) := fun j hj e => by
    rw [List.drop_eq_getElem_cons hj, recsT_cons] at e
    simp at e
  have HO0 : Hid (OutR D (x.take 0) w) := hO
  have hDw : D < w.heap.size := by obtain ⟨v, h, _⟩ := hO; exact h.lt
  have HX0 : Hid (x.drop 0 = x) := rfl
  obtain ⟨n, hn⟩ : ∃ n, n = x.length := ⟨_, rfl⟩
  have HN := Lib.hid hn
  have HEND : Hid (∀ j, j = n → recsT (x.drop j) = [] ∧ x.take j = x) := fun j e => by
    rw [e, hn]
    exact ⟨by rw [List.drop_length]; rfl, List.take_length⟩
  rw [← hn] at HTL HR1 HCU HNE hl
  clear hn hok hab hL hO
  show Calls Tryz.prog 64 #[.string ⟨(recsT (x.drop 0)).toArray⟩, .func (.func 65) #[] #[.pointer (some ⟨D, 0, none⟩)]] w _
  go_enter Tryz.func64, Tryz.ntmps64
  go_wp2_with fail
  go_loopw [0, 6] (fun tx it wr => ∃ j : Nat, j ≤ n ∧ tx = .string ⟨(recsT (x.drop j)).toArray⟩ ∧ it = .int .i64 j ∧ Hid (OutR D (x.take j) wr) ∧ Hid (Below D w wr)) (fun _ it _ => n - (intOf it).toNat)
  case atStart => exact ⟨0, Nat.zero_le _, rfl, rfl, HO0.out, Below.refl _ _⟩
  case round =>
    clear HO0
    obtain ⟨j, hj, rfl, rfl, HO, HB⟩ := hrel
    by_cases hlt : j < n
    case neg =>
      obtain ⟨h1, h2⟩ := HEND.out j (by omega)
      rw [h1]
      rw [h2] at HO
      clear h1 h2
      as_aux_lemma =>
        go_wp2_with fail
        go_ret2
        exact ⟨rfl, HO.out, HB.out⟩
    have hne := HNE.out j hlt
    have HC := Lib.hid (HCU.out j hlt wr HB.out)
    have HR := Lib.hid (HR1.out j hlt)
    generalize recsT (x.drop j) = T at hne HC ⊢
    obtain ⟨T2, hT2⟩ : ∃ T2, T2 = recsT (x.drop (j + 1)) := ⟨_, rfl⟩
    rw [← hT2] at HC
    have HT2 : Hid ((Value.string ⟨T2.toArray⟩) = .string ⟨(recsT (x.drop (j + 1))).toArray⟩) := by rw [hT2]; rfl
    clear hT2
    have hTb : (T == []) = false := beq_eq_false_iff_ne.2 hne
    cases T with
    | nil => exact absurd rfl hne
    | cons t0 T =>
      clear hne hTb
      as_aux_lemma =>
        go_wp2_with fail
        refine HC.out.mono ?_
        rintro e w2 ⟨rfl, hb⟩
        have HO2 : Hid (OutR D (x.take j) w2) := by
          obtain ⟨v, h1, h2⟩ := HO.out
          exact ⟨v, h1.below hb, own_keep h2 hb⟩
        have HB2 : Hid (Below D w w2) := HB.out.trans (hb.mono (Nat.le_trans (Nat.le_of_lt hDw) HB.out.size))
        clear hb HO HB HC
        as_aux_lemma =>
          go_wp2_with fail
          refine (HR.out w2 HB2.out HO2.out).mono ?_
          rintro e w3 ⟨rfl, ho, hb⟩
          have HO3 := Lib.hid ho
          have HB3 := Lib.hid (HB2.out.trans hb)
          clear ho hb HO2 HB2 HR
          as_aux_lemma =>
            go_wp2_with fail
            go_roundw
            case rel => exact ⟨j + 1, by omega, HT2.out, by go_num, HO3, HB3⟩
            case measure => simp [intOf]; omega
set_option maxRecDepth 100000 in
set_option maxHeartbeats 16000000 in
theorem readRec2_any (S : Nat) (w : World) (x : List Vrec) (hok : RecsOk x) (hab : ∀ a ∈ x, RecB a) (hl : x.length ≤ 20) (hL : LibsW S w) (hS : S ≤ w.heap.size) :
    Calls Tryz.prog 27 #[.string ⟨(recsT x).toArray⟩] w fun e w' => ∃ v, e = .returned (.tuple #[v, .int .i64 0, .int .i64 0]) ∧ VrecRow w' w.heap.size v x ∧ Below w.heap.size w w' := by
  have htl := recsT_len hok hab x.length (Nat.le_refl _)
  rw [List.take_length] at htl
  have HA0 : Below w.heap.size w (w.alloc (.cells #[.slice none 0 0] 33)) := ext_alloc (Below.refl _ _)
  have HO0 : OutR w.heap.size [] (w.alloc (.cells #[.slice none 0 0] 33)) := ⟨_, Blk.new _ _ _, World.ownsRow_nil _ _ _ _⟩
  have HLI := Lib.hid (linesRec_any S _ x hok hab hl (hL.below HA0 hS) w.heap.size hS HO0)
  have HCK : Hid (∀ W v, VrecRow W (w.heap.size + 1) v x → Calls Tryz.prog 25 #[v] W (IntP 0 W)) := fun W v hv => checkRecs_any W _ v x hv (by omega) hok hab
  have HAB := Lib.hid HA0
  have hsz : ¬ (200000 : Int) < ((⟨(recsT x).toArray⟩ : ByteArray).size : Int) := by rw [size_l]; omega
  have hsz2 : ¬ (200000 : Int) < ((recsT x).length : Int) := by omega
  clear htl hL hok hab HA0 HO0
  generalize recsT x = T at HLI hsz hsz2 ⊢
  go_enter Tryz.func27, Tryz.ntmps27
  go_wp2_with fail
  refine HLI.out.mono ?_
  rintro e w2 ⟨rfl, ⟨v, hD, hrow⟩, hb⟩
  have HD := Lib.hid hD
  have HR := Lib.hid hrow
  have HB2 := Lib.hid (HAB.out.trans hb)
  have d0 := hD.cell 0 rfl
  clear hb hD hrow HLI HAB
  as_aux_lemma =>
    go_wp2_with fail
    refine (HCK.out _ _ HR.out).mono ?_
    rintro e w3 ⟨rfl, hb⟩
    have HD3 := Lib.hid (HD.out.below hb)
    have HR3 : Hid (VrecRow w3 (w.heap.size + 1) v x) := own_keep HR.out hb
    have HB3 : Hid (Below w.heap.size w w3) := HB2.out.trans (hb.mono HB2.out.size)
    have d1 := HD3.out.cell 0 rfl
    clear hb HD HR HB2 d0
    as_aux_lemma =>
      go_wp2_with fail
      go_ret3
      exact ⟨v, rfl, own_le HR3.out (Nat.le_succ _), HB3.out⟩
end Go.Proofs.YtleagenhnchjdaaGreatDoor

set_option linter.unusedVariables false
set_option linter.unusedSimpArgs false
namespace Go.Proofs.YtleagenhnchjdaaGreatDoor
open Go.RowKit Go.Sort Go.Lib

theorem sortK_blockA {α : Type} [Inhabited α] (enc : α → List Value) (k : Nat) (w : World) (g q K : Nat) (d : Array α) (os : Array Obj) (hK : K < w.heap.size) (hne : K ≠ g) : (sortWorldK enc k w g 0 q d os).heap[K]? = w.heap[K]? := by
  unfold sortWorldK grow putRowK putRow mapBlock Sort.ahead
  rw [Array.getElem?_append_left (by simp; omega)]
  simp [Array.getElem?_modify, Ne.symm hne]
theorem gb_sortKA {α : Type} [Inhabited α] (enc : α → List Value) (k : Nat) (w : World) (g q : Nat) (d : Array α) (os : Array Obj) : w.grownBy (sortWorldK enc k w g 0 q d os) (some g) := by
  have h := below_sortK enc k os (q := q) (d := d) (Below.refl 0 w) (Nat.zero_le g) (Nat.zero_le _)
  exact ⟨h.os, h.tape, h.output, h.size, fun j hj hn => sortK_blockA enc k w g q j d os hj (fun e => hn (by rw [e]))⟩
end Go.Proofs.YtleagenhnchjdaaGreatDoor

set_option linter.unusedVariables false
set_option linter.unusedSimpArgs false
namespace Go.Proofs.YtleagenhnchjdaaGreatDoor
open Go.RowKit Go.Sort Go.Lib

def stRPost (base : Nat) (v : Value) (l : List Vrec) (w : World) (e : Ending) (w' : World) : Prop := e = .returned (.tuple #[]) ∧ VrecRow w' base v l ∧ w.grownBy w' v.ownBlock
theorem stR_lays (blk size : Nat) (w : World) : CmpLays Tryz.prog 73 #[] Vrec.cells 8 recOrd blk 0 size w := fun m os dk _ x y => recOrd_any x y _
/-- Nothing is sorted. -/
theorem stR_nil (c : Nat) (a : Option Addr) (fv : Value) (w : World) : Calls Tryz.prog 134 #[.slice a 0 c, .int .i64 0, .int .i64 0, fv] w fun e w' => e = .returned (.tuple #[]) ∧ w = w' := by
  go_enter Tryz.func134, Tryz.ntmps134
  go_wp2_with fail
  go_loopw [8] (fun i wr => i = .int .i64 1 ∧ wr = w) (fun _ _ => 0)
  case atStart => exact ⟨rfl, rfl⟩
  case round =>
    obtain ⟨rfl, rfl⟩ := hrel
    go_wp2_with fail
    go_end0
    exact ⟨rfl, rfl⟩
theorem stR_any (w : World) (base : Nat) (v : Value) (l : List Vrec) (h : VrecRow w base v l) (hl : l.length ≤ 12) : Calls Tryz.prog 72 #[v, .func (.func 73) #[] #[]] w (stRPost base v (insL (ltOf recOrd) l) w) := by
  unfold VrecRow at h
  obtain ⟨a, c, rfl⟩ := own_shape h
  have HINS : Hid (Calls Tryz.prog 134 #[.slice a l.length c, .int .i64 0, .int .i64 l.length, .func (.func 73) #[] #[]] w (stRPost base (.slice a l.length c) (insL (ltOf recOrd) l) w)) := by
    show Calls _ _ _ _ _
    by_cases h0 : l.length = 0
    · have hx : l = [] := List.eq_nil_of_length_eq_zero h0
      subst hx
      have e1 : insL (ltOf recOrd) ([] : List Vrec) = [] := by unfold insL insertionSort insOuter; simp
      rw [e1]
      refine (stR_nil c a _ w).mono ?_
      rintro e w' ⟨rfl, rfl⟩
      exact ⟨rfl, h, gb_of_below (Below.refl _ _)⟩
    · obtain ⟨g, rfl, hg1, hg2⟩ := own_pos h (by omega)
      have hcon := Tryz.slices_insVrec Vrec.cells (fun _ => rfl) rec_one recOrd 73 #[] g 0 c 0 l.length l.toArray w (enters_of Tryz.func73 (by kernel_rfl) rfl) (stR_lays g _ w) (holdsK_own Vrec.cells (fun _ => rfl) (by omega) h) hg2 (Nat.zero_le _) (by simp) (by simp; omega)
      refine Calls.mono hcon ?_
      rintro e w' ⟨rfl, q, os, rfl⟩
      rw [insL_arr]
      refine ⟨rfl, ?_, gb_sortKA Vrec.cells 8 w g q _ os⟩
      unfold VrecRow
      rw [insL_len]
      exact own_putK Vrec.cells (fun _ => rfl) (by omega) h (insL_len _ _) q os
  have hl12 := hl
  clear h
  have HPR : Hid (∀ e W2, stRPost base (.slice a l.length c) (insL (ltOf recOrd) l) w e W2 → e = .returned (.tuple #[]) ∧ Hid (stRPost base (.slice a l.length c) (insL (ltOf recOrd) l) w (.returned (.tuple #[])) W2)) := fun e W2 h => ⟨h.1, by obtain ⟨rfl, h2⟩ := h; exact ⟨rfl, h2⟩⟩
  generalize hPP : stRPost base (.slice a l.length c) (insL (ltOf recOrd) l) w = PP at HINS HPR ⊢
  clear hPP
  generalize l.length = n at HINS hl12 ⊢
  clear hl
  have HSTB : Hid (Calls Tryz.prog 111 #[.slice a n c, .int .i64 n, .func (.func 73) #[] #[]] w fun e w' => e = .returned (.tuple #[]) ∧ PP (.returned (.tuple #[])) w') := by
    show Calls _ _ _ _ _
    have q1 : ¬ ((20 : Int) ≤ (n : Int)) := by omega
    have q2 : ¬ ((20 : Int) < (n : Int)) := by omega
    go_enter Tryz.func111, Tryz.ntmps111
    go_wp2_with fail
    go_loopw [7, 8] (fun a b wr => a = .int .i64 0 ∧ b = .int .i64 20 ∧ wr = w) (fun _ _ _ => 0)
    case atStart => exact ⟨rfl, rfl, rfl⟩
    case round =>
      obtain ⟨rfl, rfl, rfl⟩ := hrel
      go_wp2_with fail
      refine HINS.out.mono ?_
      rintro e W2 hp
      obtain ⟨rfl, HPW⟩ : e = .returned (.tuple #[]) ∧ Hid (PP (.returned (.tuple #[])) W2) := HPR.out e W2 hp
      go_wp2_with fail
      go_loopw [6] (fun a wr => a = .int .i64 20 ∧ wr = W2) (fun _ _ => 0)
      case atStart => exact ⟨rfl, rfl⟩
      case round =>
        obtain ⟨rfl, rfl⟩ := hrel
        go_wp2_with fail
        go_end0
        exact ⟨rfl, HPW.out⟩
  clear HINS
  go_enter Tryz.func72, Tryz.ntmps72
  go_wp2_with fail
  refine HSTB.out.mono ?_
  rintro e w' ⟨rfl, hp⟩
  have HP := Lib.hid hp
  clear hp
  go_wp2_with fail
  go_end0
  exact HP.out
theorem swR_lays (blk size : Nat) (w : World) : CmpLays Tryz.prog 55 #[] Vrec.cells 8 recCmp blk 0 size w := fun m os dk _ x y => cmpRec_any x y _
theorem swR_pdq (c : Nat) (a : Option Addr) (lim : Int) (fv : Value) (w : World) : Calls Tryz.prog 100 #[.slice a 0 c, .int .i64 0, .int .i64 0, .int .i64 lim, fv] w fun e w' => e = .returned (.tuple #[]) ∧ w = w' := by
  go_enter Tryz.func100, Tryz.ntmps100
  go_wp2_with fail
  go_loopw [1, 2] (fun x1 x2 wr => x1 = .int .i64 0 ∧ x2 = .int .i64 0 ∧ wr = w) (fun _ _ _ => 0)
  case atStart => exact ⟨rfl, rfl, rfl⟩
  case round =>
    obtain ⟨rfl, rfl, rfl⟩ := hrel
    go_wp2_with fail
    refine (stR_nil c a fv _).mono ?_
    rintro e w' ⟨rfl, rfl⟩
    go_wp2_with fail
    refine bodyPost_ret (results_none rfl _ _ _) rfl ?_
    exact ⟨rfl, rfl⟩
def swRPost (base : Nat) (v : Value) (l : List Vrec) (w : World) (e : Ending) (w' : World) : Prop := ∃ ys, e = .returned (.tuple #[]) ∧ VrecRow w' base v ys ∧ w.grownBy w' v.ownBlock ∧ ys.Perm l ∧ ys.Pairwise fun a b => ltOf recCmp b a = false
theorem swR_any (w : World) (base : Nat) (v : Value) (l : List Vrec) (h : VrecRow w base v l) (hl : l.length ≤ 100000) : Calls Tryz.prog 54 #[v, .func (.func 55) #[] #[]] w (swRPost base v l w) := by
  unfold VrecRow at h
  obtain ⟨a, c, rfl⟩ := own_shape h
  by_cases h0 : l.length = 0
  · have hx : l = [] := List.eq_nil_of_length_eq_zero h0
    subst hx
    have HP : Hid (VrecRow w base (.slice a 0 c) []) := h
    show Calls Tryz.prog 54 #[.slice a 0 c, .func (.func 55) #[] #[]] w _
    have HE : Hid (swRPost base (.slice a 0 c) [] w (.returned (.tuple #[])) w) := ⟨[], rfl, HP.out, gb_of_below (Below.refl _ _), List.Perm.refl _, List.Pairwise.nil⟩
    clear h h0 HP
    go_enter Tryz.func54, Tryz.ntmps54
    go_wp2_with fail
    refine (Tryz.bits_Len 0 _ (by omega) (by omega)).mono ?_
    rintro e w' ⟨rfl, rfl⟩
    go_wp2_with fail
    refine (swR_pdq c a _ _ _).mono ?_
    rintro e w' ⟨rfl, rfl⟩
    go_wp2_with fail
    go_end0
    exact HE.out
  · obtain ⟨g, rfl, hg1, hg2⟩ := own_pos h (by omega)
    have hcon := Tryz.slices_sortwVrec Vrec.cells (fun _ => rfl) rec_one recCmp swo_R 55 #[] g 0 c l.toArray w (enters_of Tryz.func55 (by kernel_rfl) rfl) (swR_lays g _ w) (holdsK_own Vrec.cells (fun _ => rfl) (by omega) h) hg2 (by simp; omega)
    refine Calls.mono hcon ?_
    rintro e w' ⟨rfl, d', q, os, hp, ho, rfl⟩
    obtain ⟨hs, _, hp⟩ := hp
    have hs2 : d'.toList.length = l.length := by simpa using hs
    have e1 : (d'.extract 0 l.toArray.size).toList = d'.toList := by
      rw [show l.toArray.size = d'.size by rw [hs]]
      simp
    have e2 : (l.toArray.extract 0 l.toArray.size).toList = l := by simp
    rw [e1, e2] at hp
    refine ⟨d'.toList, rfl, ?_, gb_sortKA Vrec.cells 8 w g q _ os, hp, ?_⟩
    · unfold VrecRow
      rw [hs2]
      have := own_putK Vrec.cells (fun _ => rfl) (by omega) h hs2 q os
      simpa using this
    · rw [List.pairwise_iff_getElem]
      intro i j hi hj hij
      have := ho i j (Nat.zero_le _) hij (by have := hj; rw [hs2] at this; simpa using this)
      have hi' : i < d'.size := by simpa using hi
      have hj' : j < d'.size := by simpa using hj
      simpa [hi', hj'] using this
end Go.Proofs.YtleagenhnchjdaaGreatDoor

set_option linter.unusedVariables false
set_option linter.unusedSimpArgs false
namespace Go.Proofs.YtleagenhnchjdaaGreatDoor
open Go.RowKit Go.Sort Go.Lib

set_option maxRecDepth 100000 in
set_option maxHeartbeats 16000000 in
theorem recsFault_any (w : World) (base : Nat) (v : Value) (l : List Vrec) (h : VrecRow w base v l) (hl : l.length ≤ 1000) (hb : ∀ a ∈ l, RecB a) :
    Calls Tryz.prog 33 #[v] w (fun e w' => ∃ E : Int, e = .returned (.int .i64 E) ∧ (E = 0 → RecsOk l) ∧ Below w.heap.size w w') := by
  unfold VrecRow at h
  obtain ⟨a, cap, rfl⟩ := own_shape h
  have HO := Lib.hid h
  have HB := Lib.hid hb
  obtain ⟨n, hn⟩ : ∃ n, n = l.length := ⟨_, rfl⟩
  have HN := Lib.hid hn
  rw [← hn] at HO hl ⊢
  clear hn h hb
  have hl0 : ¬ (3000 : Int) < (n : Int) := by omega
  go_enter Tryz.func33, Tryz.ntmps33
  go_wp2_with fail
  clear hl0
  go_loopw [13] (fun it wr => ∃ i : Nat, i ≤ n ∧ it = .int .i64 i ∧ Hid (∀ m, m < i → RecGood (l.getD m default)) ∧ Hid (∀ m, m + 1 < i → (l.getD m default).lt (l.getD (m + 1) default)) ∧ Hid (Below w.heap.size w wr)) (fun it _ => n - (intOf it).toNat)
  case atStart => exact ⟨0, Nat.zero_le _, rfl, (fun m hm => absurd hm (by omega)), (fun m hm => absurd hm (by omega)), Below.refl _ _⟩
  case round =>
    obtain ⟨i, hi, rfl, HG, HLT, HBW⟩ := hrel
    by_cases hlt : i < n
    case neg =>
      obtain rfl : i = n := by omega
      have hin : ¬ ((i : Int) < (i : Int)) := by omega
      have HASC := Lib.hid (rec_asc_of (l := l) (fun m hm => HLT.out m (by have := HN.out; omega)))
      have HGA : Hid (∀ a ∈ l, RecGood a) := fun a ha => by
        obtain ⟨m, hm, rfl⟩ := List.getElem_of_mem ha
        have := HG.out m (by have := HN.out; omega)
        rwa [rget hm] at this
      have HM1 : Hid (SbAt (wr.alloc (.map #[] 0)) wr.heap.size 0 []) := SbAt.made wr
      have HBM : Hid (Below w.heap.size w (wr.alloc (.map #[] 0))) := ext_alloc HBW.out
      have hwr : w.heap.size ≤ wr.heap.size := HBW.out.size
      clear HG HLT HBW
      have hmm := @run_makeMap Tryz.prog
      as_aux_lemma =>
        go_wp2_with fail
        clear hmm
        generalize (wr.alloc (.map #[] 0)) = wm at HM1 HBM ⊢
        generalize wr.heap.size = M at HM1 hwr ⊢
        go_loopw [91] (fun it wx => ∃ j : Nat, j ≤ i ∧ it = .int .i64 j ∧ Hid (SbAt wx M j (ddN (l.map Vrec.id) j)) ∧ Hid (Below w.heap.size w wx)) (fun it _ => i - (intOf it).toNat)
        case atStart => exact ⟨0, Nat.zero_le _, rfl, HM1.out, HBM.out⟩
        case round =>
          clear HM1 HBM
          obtain ⟨j, hj, rfl, HSB, HBW⟩ := hrel
          obtain ⟨wx, rfl⟩ : ∃ z : World, z = wr := ⟨_, rfl⟩
          have hids : (l.map Vrec.id).length = i := by rw [List.length_map]; exact HN.out.symm
          by_cases hlj : j < i
          case neg =>
            obtain rfl : j = i := by omega
            have hjn : ¬ ((j : Int) < (j : Int)) := by omega
            have hdl := ddN_len (l.map Vrec.id) j (by omega)
            have HDL : Hid ((ddN (l.map Vrec.id) j).length = j → l.Pairwise fun a b => a.id ≠ b.id) := fun h => by
              have := hdl.2 h
              rw [List.take_of_length_le (by omega)] at this
              exact List.pairwise_map.1 this
            obtain ⟨D, ho, -, -, hsz⟩ := HSB.out
            have HO9 := Lib.hid ho
            have HSZ := Lib.hid hsz
            clear ho hsz HSB
            generalize (ddN (l.map Vrec.id) j).length = dn at HDL HSZ hdl
            as_aux_lemma =>
              by_cases hdj : dn < j
              case pos =>
                have hdji : (dn : Int) < (j : Int) := by omega
                as_aux_lemma =>
                  go_wp2_with (at_len; refine wpList_len_own _ rfl (.tmp 99) 133 rfl _ 4 sbUnder _ M j D rfl HO9.out ?_; rw [HSZ.out])
                  go_ret
                  exact ⟨_, rfl, (fun h => absurd h (by decide)), HBW.out⟩
              have hdji : ¬ ((dn : Int) < (j : Int)) := by omega
              have HFIN : Hid (RecsOk l) := ⟨HGA.out, HASC.out, HDL.out (by omega)⟩
              as_aux_lemma =>
                go_wp2_with (at_len; refine wpList_len_own _ rfl (.tmp 99) 133 rfl _ 4 sbUnder _ M j D rfl HO9.out ?_; rw [HSZ.out])
                go_ret
                exact ⟨0, rfl, (fun _ => HFIN.out), HBW.out⟩
          have hjn : (j : Int) < (i : Int) := by omega
          have hjl : j < l.length := by have := HN.out; omega
          have hO := own_keep HO.out HBW.out
          obtain ⟨g, rfl, hg0, hgw⟩ := own_pos hO (by omega)
          have d0 := own_field Vrec.cells (fun _ => rfl) hO j 0 default hjl (by omega) rfl
          have d1 := own_field Vrec.cells (fun _ => rfl) hO j 1 default hjl (by omega) rfl
          have d2 := own_field Vrec.cells (fun _ => rfl) hO j 2 default hjl (by omega) rfl
          have d3 := own_field Vrec.cells (fun _ => rfl) hO j 3 default hjl (by omega) rfl
          have d4 := own_field Vrec.cells (fun _ => rfl) hO j 4 default hjl (by omega) rfl
          have d5 := own_field Vrec.cells (fun _ => rfl) hO j 5 default hjl (by omega) rfl
          have d6 := own_field Vrec.cells (fun _ => rfl) hO j 6 default hjl (by omega) rfl
          have d7 := own_field Vrec.cells (fun _ => rfl) hO j 7 default hjl (by omega) rfl
          rw [Nat.add_zero] at d0
          have HIDL : Hid ((l.getD j default).id.length ≤ 1000) := by have := (HB.out _ (rget_mem hjl)).id; show _ ≤ _; omega
          have HDD : Hid (ddN (l.map Vrec.id) (j + 1) = if (ddN (l.map Vrec.id) j).contains (l.getD j default).id then ddN (l.map Vrec.id) j else ddN (l.map Vrec.id) j ++ [(l.getD j default).id]) := by
            show _ = _
            have e : (l.map Vrec.id).getD j [] = (l.getD j default).id := by
              rw [List.getD_eq_getElem?_getD, List.getElem?_map, List.getElem?_eq_getElem hjl, rget hjl]; rfl
            rw [← e]; rfl
          obtain ⟨x, hx⟩ : ∃ x, x = l.getD j default := ⟨_, rfl⟩
          rw [← hx] at d0 d1 d2 d3 d4 d5 d6 d7 HIDL HDD
          clear hx hO
          obtain ⟨xi, x1, x2, x3, x4, x5, x6, x7⟩ := x
          have hil9 : xi.length ≤ 1000 := HIDL.out
          have X1 : Hid (Blk (wx.alloc (.cells #[.string ⟨xi.toArray⟩, .string ⟨x1.toArray⟩, .string ⟨x2.toArray⟩, .int .i64 x3, .int .i64 x4, .int .i64 x5, .int .i64 x6, .string ⟨x7.toArray⟩] 50)) wx.heap.size [.string ⟨xi.toArray⟩, .string ⟨x1.toArray⟩, .string ⟨x2.toArray⟩, .int .i64 x3, .int .i64 x4, .int .i64 x5, .int .i64 x6, .string ⟨x7.toArray⟩] 50) := Blk.new _ _ _
          have hba : Below wx.heap.size wx (wx.alloc (.cells #[.string ⟨xi.toArray⟩, .string ⟨x1.toArray⟩, .string ⟨x2.toArray⟩, .int .i64 x3, .int .i64 x4, .int .i64 x5, .int .i64 x6, .string ⟨x7.toArray⟩] 50)) := ext_alloc (Below.refl _ _)
          have HS1 := Lib.hid (HSB.out.below hba)
          have HB1 := Lib.hid (ext_trans HBW.out hba)
          clear hba HSB HBW
          as_aux_lemma =>
            go_upto_region 25 with (fail)
            clear d0 d1 d2 d3 d4 d5 d6 d7
            generalize (wx.alloc (.cells #[.string ⟨xi.toArray⟩, .string ⟨x1.toArray⟩, .string ⟨x2.toArray⟩, .int .i64 x3, .int .i64 x4, .int .i64 x5, .int .i64 x6, .string ⟨x7.toArray⟩] 50)) = w1 at X1 HS1 HB1 ⊢
            generalize wx.heap.size = B at X1 ⊢
            have c0 := X1.out.cell 0 rfl
            have hw1 : w.heap.size ≤ w1.heap.size := HB1.out.size
            as_aux_lemma =>
              go_wp2_with (at_mapUpdate; refine wpList_sb _ rfl (.tmp 95) (.tmp 97) (.const (.bool true)) rfl M j _ rfl HS1.out (by simp only [maxLen]; omega) xi rfl rfl hil9 ?_; intro wu hsb hgr; have HSU := Lib.hid hsb; have HGU := Lib.hid hgr; clear hsb hgr; refine Hid.out ?_)
              refine Lib.hid ?_
              have HSU2 : Hid (SbAt wu M (j + 1) (ddN (l.map Vrec.id) (j + 1))) := by
                show SbAt _ _ _ _
                rw [HDD.out]
                exact HSU.out
              have HBU : Hid (Below w.heap.size w wu) := HB1.out.trans (gb_lowR HGU.out hw1 hwr)
              clear HSU HGU X1 HB1 c0 HS1
              as_aux_lemma =>
                go_wp2_with fail
                go_roundw
                case rel => exact ⟨j + 1, by omega, by go_num, HSU2.out, HBU.out⟩
                case measure => simp [intOf]; omega
    have hin : (i : Int) < (n : Int) := by omega
    have hil : i < l.length := by have := HN.out; omega
    have hO := own_keep HO.out HBW.out
    obtain ⟨g, rfl, hg0, hgw⟩ := own_pos hO (by omega)
    have HBX := Lib.hid (HB.out _ (rget_mem hil))
    have HPREV : Hid (∀ i1, i = i1 + 1 → ∀ W9, Below w.heap.size w W9 → W9.cell? ⟨g, i1 * 8, none⟩ = some (.string ⟨(l.getD i1 default).id.toArray⟩) ∧ W9.cell? ⟨g, i1 * 8 + 1, none⟩ = some (.string ⟨(l.getD i1 default).frm.toArray⟩) ∧ W9.cell? ⟨g, i1 * 8 + 2, none⟩ = some (.string ⟨(l.getD i1 default).to_.toArray⟩) ∧ W9.cell? ⟨g, i1 * 8 + 3, none⟩ = some (.int .i64 (l.getD i1 default).at_) ∧ W9.cell? ⟨g, i1 * 8 + 4, none⟩ = some (.int .i64 (l.getD i1 default).ring) ∧ W9.cell? ⟨g, i1 * 8 + 5, none⟩ = some (.int .i64 (l.getD i1 default).talk) ∧ W9.cell? ⟨g, i1 * 8 + 6, none⟩ = some (.int .i64 (l.getD i1 default).how) ∧ W9.cell? ⟨g, i1 * 8 + 7, none⟩ = some (.string ⟨(l.getD i1 default).car.toArray⟩)) := fun i1 e W9 hW => ⟨own_field Vrec.cells (fun _ => rfl) (own_keep HO.out hW) i1 0 default (by omega) (by omega) rfl, own_field Vrec.cells (fun _ => rfl) (own_keep HO.out hW) i1 1 default (by omega) (by omega) rfl, own_field Vrec.cells (fun _ => rfl) (own_keep HO.out hW) i1 2 default (by omega) (by omega) rfl, own_field Vrec.cells (fun _ => rfl) (own_keep HO.out hW) i1 3 default (by omega) (by omega) rfl, own_field Vrec.cells (fun _ => rfl) (own_keep HO.out hW) i1 4 default (by omega) (by omega) rfl, own_field Vrec.cells (fun _ => rfl) (own_keep HO.out hW) i1 5 default (by omega) (by omega) rfl, own_field Vrec.cells (fun _ => rfl) (own_keep HO.out hW) i1 6 default (by omega) (by omega) rfl, own_field Vrec.cells (fun _ => rfl) (own_keep HO.out hW) i1 7 default (by omega) (by omega) rfl⟩
    have HCM : Hid (∀ i1, i = i1 + 1 → ∀ W, Calls Tryz.prog 73 #[(l.getD i1 default).val, (l.getD i default).val] W fun e w' => e = .returned (.int .i64 (recOrd (l.getD i1 default) (l.getD i default))) ∧ Below W.heap.size W w') := fun i1 _ W => recOrd_b _ _ W
    have d0 := own_field Vrec.cells (fun _ => rfl) hO i 0 default hil (by omega) rfl
    have d1 := own_field Vrec.cells (fun _ => rfl) hO i 1 default hil (by omega) rfl
    have d2 := own_field Vrec.cells (fun _ => rfl) hO i 2 default hil (by omega) rfl
    have d3 := own_field Vrec.cells (fun _ => rfl) hO i 3 default hil (by omega) rfl
    have d4 := own_field Vrec.cells (fun _ => rfl) hO i 4 default hil (by omega) rfl
    have d5 := own_field Vrec.cells (fun _ => rfl) hO i 5 default hil (by omega) rfl
    have d6 := own_field Vrec.cells (fun _ => rfl) hO i 6 default hil (by omega) rfl
    have d7 := own_field Vrec.cells (fun _ => rfl) hO i 7 default hil (by omega) rfl
    have hXV : (l.getD i default).val = .agg #[.string ⟨(l.getD i default).id.toArray⟩, .string ⟨(l.getD i default).frm.toArray⟩, .string ⟨(l.getD i default).to_.toArray⟩, .int .i64 (l.getD i default).at_, .int .i64 (l.getD i default).ring, .int .i64 (l.getD i default).talk, .int .i64 (l.getD i default).how, .string ⟨(l.getD i default).car.toArray⟩] := rfl
    rw [hXV] at HCM
    clear hXV hO
    obtain ⟨x, hx⟩ : ∃ x, x = l.getD i default := ⟨_, rfl⟩
    rw [← hx] at d0 d1 d2 d3 d4 d5 d6 d7 HCM HBX
    have HX := Lib.hid hx
    clear hx
    have HCL : Hid (x.car.length ≤ 10) := carsB_len _ HBX.out.car
    have HMO : Hid (∀ W, Calls Tryz.prog 76 #[.int .i64 x.at_] W (BoolP (isMomB x.at_) W)) := fun W => ((moment2_any _ W).mono (fun e w2 h => ⟨h.1, by rw [← h.2]; exact Below.refl _ _⟩))
    have HK1 : Hid (∀ W, Calls Tryz.prog 74 #[.string ⟨x.id.toArray⟩] W (BoolP (isKeyB x.id) W)) := fun W => ((key2_any _ W (by have := HBX.out.id; omega)).mono (fun e w2 h => ⟨h.1, by rw [← h.2]; exact Below.refl _ _⟩))
    have HK2 : Hid (∀ W, Calls Tryz.prog 74 #[.string ⟨x.car.toArray⟩] W (BoolP (isKeyB x.car) W)) := fun W => ((key2_any _ W (by have := HCL.out; omega)).mono (fun e w2 h => ⟨h.1, by rw [← h.2]; exact Below.refl _ _⟩))
    have HP1 : Hid (∀ W, Calls Tryz.prog 75 #[.string ⟨x.frm.toArray⟩] W (BoolP (isNumB x.frm) W)) := fun W => phone2_any _ W (by have := HBX.out.frm; omega)
    have HP2 : Hid (∀ W, Calls Tryz.prog 75 #[.string ⟨x.to_.toArray⟩] W (BoolP (isNumB x.to_) W)) := fun W => phone2_any _ W (by have := HBX.out.to_; omega)
    have HIN : Hid (∀ z lo hi W, Calls Tryz.prog 77 #[.int .i64 z, .int .i64 lo, .int .i64 hi] W (BoolP (decide (lo ≤ z) && decide (z ≤ hi)) W)) := fun z lo hi W => ((in2_any z lo hi W).mono (fun e w2 h => ⟨h.1, by rw [← h.2]; exact Below.refl _ _⟩))
    have HGOOD : Hid (isKeyB x.id = true → isNumB x.frm = true → isNumB x.to_ = true → isMomB x.at_ = true → (decide ((0 : Int) ≤ x.ring) && decide (x.ring ≤ 86400000)) = true → (decide ((0 : Int) ≤ x.talk) && decide (x.talk ≤ 86400000)) = true → (decide ((1 : Int) ≤ x.how) && decide (x.how ≤ 4)) = true → (x.how = 1 ↔ 0 < x.talk) → (x.car = [] ∨ isKeyB x.car = true) → RecGood x) := fun h1 h2 h3 h4 h5 h6 h7 h8 h9 => by
      simp only [Bool.and_eq_true, decide_eq_true_eq] at h5 h6 h7
      exact ⟨h1, h2, h3, h4, h5.1, h5.2, h6.1, h6.2, h7.1, h7.2, h8, h9⟩
    obtain ⟨bM, hbM⟩ : ∃ b, b = isMomB x.at_ := ⟨_, rfl⟩
    rw [← hbM] at HMO
    have HEbM := Lib.hid hbM
    clear hbM
    obtain ⟨bK, hbK⟩ : ∃ b, b = isKeyB x.id := ⟨_, rfl⟩
    rw [← hbK] at HK1
    have HEbK := Lib.hid hbK
    clear hbK
    obtain ⟨bF, hbF⟩ : ∃ b, b = isNumB x.frm := ⟨_, rfl⟩
    rw [← hbF] at HP1
    have HEbF := Lib.hid hbF
    clear hbF
    obtain ⟨bT, hbT⟩ : ∃ b, b = isNumB x.to_ := ⟨_, rfl⟩
    rw [← hbT] at HP2
    have HEbT := Lib.hid hbT
    clear hbT
    obtain ⟨bC, hbC⟩ : ∃ b, b = isKeyB x.car := ⟨_, rfl⟩
    rw [← hbC] at HK2
    have HEbC := Lib.hid hbC
    clear hbC
    obtain ⟨bR, hbR⟩ : ∃ b, b = (decide ((0 : Int) ≤ x.ring) && decide (x.ring ≤ 86400000)) := ⟨_, rfl⟩
    have HINR := HIN.out x.ring 0 86400000
    rw [← hbR] at HINR
    have HINR := Lib.hid HINR
    have HEbR := Lib.hid hbR
    clear hbR
    obtain ⟨bA, hbA⟩ : ∃ b, b = (decide ((0 : Int) ≤ x.talk) && decide (x.talk ≤ 86400000)) := ⟨_, rfl⟩
    have HINT := HIN.out x.talk 0 86400000
    rw [← hbA] at HINT
    have HINT := Lib.hid HINT
    have HEbA := Lib.hid hbA
    clear hbA
    obtain ⟨bH, hbH⟩ : ∃ b, b = (decide ((1 : Int) ≤ x.how) && decide (x.how ≤ 4)) := ⟨_, rfl⟩
    have HINH := HIN.out x.how 1 4
    rw [← hbH] at HINH
    have HINH := Lib.hid HINH
    have HEbH := Lib.hid hbH
    clear hbH
    clear HIN
    obtain ⟨xi, hxi⟩ : ∃ z : List UInt8, z = x.id := ⟨_, rfl⟩
    obtain ⟨b1, hb1⟩ : ∃ z : ByteArray, z = ⟨x.frm.toArray⟩ := ⟨_, rfl⟩
    obtain ⟨b2, hb2⟩ : ∃ z : ByteArray, z = ⟨x.to_.toArray⟩ := ⟨_, rfl⟩
    obtain ⟨x3, hx3⟩ : ∃ z, z = x.at_ := ⟨_, rfl⟩
    obtain ⟨x4, hx4⟩ : ∃ z, z = x.ring := ⟨_, rfl⟩
    obtain ⟨x5, hx5⟩ : ∃ z, z = x.talk := ⟨_, rfl⟩
    obtain ⟨x6, hx6⟩ : ∃ z, z = x.how := ⟨_, rfl⟩
    obtain ⟨xc, hxc⟩ : ∃ z : List UInt8, z = x.car := ⟨_, rfl⟩
    have HZ5 := Lib.hid hx5
    have HZ6 := Lib.hid hx6
    have HZC := Lib.hid hxc
    rw [← hxi] at d0 HK1 HCM
    rw [← hb1] at d1 HP1 HCM
    rw [← hb2] at d2 HP2 HCM
    rw [← hx3] at d3 HMO HCM
    rw [← hx4] at d4 HINR HCM
    rw [← hx5] at d5 HINT HCM
    rw [← hx6] at d6 HINH HCM
    rw [← hxc] at d7 HK2 HCM
    rw [Nat.add_zero] at d0
    clear hxi hb1 hb2 hx3 hx4 hx5 hx6 hxc
    have X1 : Hid (Blk (wr.alloc (.cells #[.string ⟨xi.toArray⟩, .string b1, .string b2, .int .i64 x3, .int .i64 x4, .int .i64 x5, .int .i64 x6, .string ⟨xc.toArray⟩] 50)) wr.heap.size [.string ⟨xi.toArray⟩, .string b1, .string b2, .int .i64 x3, .int .i64 x4, .int .i64 x5, .int .i64 x6, .string ⟨xc.toArray⟩] 50) := Blk.new _ _ _
    have HB1 : Hid (Below wr.heap.size wr (wr.alloc (.cells #[.string ⟨xi.toArray⟩, .string b1, .string b2, .int .i64 x3, .int .i64 x4, .int .i64 x5, .int .i64 x6, .string ⟨xc.toArray⟩] 50))) := ext_alloc (Below.refl _ _)
    as_aux_lemma =>
      go_upto_region 6 with (fail)
      clear d0 d1 d2 d3 d4 d5 d6 d7
      generalize (wr.alloc (.cells #[.string ⟨xi.toArray⟩, .string b1, .string b2, .int .i64 x3, .int .i64 x4, .int .i64 x5, .int .i64 x6, .string ⟨xc.toArray⟩] 50)) = w1 at X1 HB1 ⊢
      generalize wr.heap.size = B at X1 ⊢
      have c0 := X1.out.cell 0 rfl
      have c1 := X1.out.cell 1 rfl
      have c2 := X1.out.cell 2 rfl
      have c3 := X1.out.cell 3 rfl
      have c4 := X1.out.cell 4 rfl
      have c5 := X1.out.cell 5 rfl
      have c6 := X1.out.cell 6 rfl
      have c7 := X1.out.cell 7 rfl
      as_aux_lemma =>
        go_wp2_with fail
        refine (HK1.out _).mono ?_
        rintro e w2 ⟨rfl, hb⟩
        have X2 := Lib.hid (X1.out.below hb)
        have HB2 := Lib.hid (ext_trans HB1.out hb)
        clear hb c0 c1 c2 c3 c4 c5 c6 c7 X1 HB1
        have c0 := X2.out.cell 0 rfl
        have c1 := X2.out.cell 1 rfl
        have c2 := X2.out.cell 2 rfl
        have c3 := X2.out.cell 3 rfl
        have c4 := X2.out.cell 4 rfl
        have c5 := X2.out.cell 5 rfl
        have c6 := X2.out.cell 6 rfl
        have c7 := X2.out.cell 7 rfl
        cases bK
        case false =>
          as_aux_lemma =>
            go_wp2_with fail
            go_ret
            exact ⟨_, rfl, (fun h => absurd h (by decide)), ext_trans HBW.out HB2.out⟩
        as_aux_lemma =>
          go_wp2_with fail
          refine (HP1.out _).mono ?_
          rintro e w3 ⟨rfl, hb⟩
          have X3 := Lib.hid (X2.out.below hb)
          have HB3 := Lib.hid (ext_trans HB2.out hb)
          clear hb c0 c1 c2 c3 c4 c5 c6 c7 X2 HB2
          have c0 := X3.out.cell 0 rfl
          have c1 := X3.out.cell 1 rfl
          have c2 := X3.out.cell 2 rfl
          have c3 := X3.out.cell 3 rfl
          have c4 := X3.out.cell 4 rfl
          have c5 := X3.out.cell 5 rfl
          have c6 := X3.out.cell 6 rfl
          have c7 := X3.out.cell 7 rfl
          cases bF
          case false =>
            as_aux_lemma =>
              go_wp2_with fail
              go_ret
              exact ⟨_, rfl, (fun h => absurd h (by decide)), ext_trans HBW.out HB3.out⟩
          as_aux_lemma =>
            go_wp2_with fail
            refine (HP2.out _).mono ?_
            rintro e w4 ⟨rfl, hb⟩
            have X4 := Lib.hid (X3.out.below hb)
            have HB4 := Lib.hid (ext_trans HB3.out hb)
            clear hb c0 c1 c2 c3 c4 c5 c6 c7 X3 HB3
            have c0 := X4.out.cell 0 rfl
            have c1 := X4.out.cell 1 rfl
            have c2 := X4.out.cell 2 rfl
            have c3 := X4.out.cell 3 rfl
            have c4 := X4.out.cell 4 rfl
            have c5 := X4.out.cell 5 rfl
            have c6 := X4.out.cell 6 rfl
            have c7 := X4.out.cell 7 rfl
            cases bT
            case false =>
              as_aux_lemma =>
                go_wp2_with fail
                go_ret
                exact ⟨_, rfl, (fun h => absurd h (by decide)), ext_trans HBW.out HB4.out⟩
            as_aux_lemma =>
              go_wp2_with fail
              refine (HMO.out _).mono ?_
              rintro e w5 ⟨rfl, hb⟩
              have X5 := Lib.hid (X4.out.below hb)
              have HB5 := Lib.hid (ext_trans HB4.out hb)
              clear hb c0 c1 c2 c3 c4 c5 c6 c7 X4 HB4
              have c0 := X5.out.cell 0 rfl
              have c1 := X5.out.cell 1 rfl
              have c2 := X5.out.cell 2 rfl
              have c3 := X5.out.cell 3 rfl
              have c4 := X5.out.cell 4 rfl
              have c5 := X5.out.cell 5 rfl
              have c6 := X5.out.cell 6 rfl
              have c7 := X5.out.cell 7 rfl
              cases bM
              case false =>
                as_aux_lemma =>
                  go_wp2_with fail
                  go_ret
                  exact ⟨_, rfl, (fun h => absurd h (by decide)), ext_trans HBW.out HB5.out⟩
              as_aux_lemma =>
                go_wp2_with fail
                refine (HINR.out _).mono ?_
                rintro e w6 ⟨rfl, hb⟩
                have X6 := Lib.hid (X5.out.below hb)
                have HB6 := Lib.hid (ext_trans HB5.out hb)
                clear hb c0 c1 c2 c3 c4 c5 c6 c7 X5 HB5
                have c0 := X6.out.cell 0 rfl
                have c1 := X6.out.cell 1 rfl
                have c2 := X6.out.cell 2 rfl
                have c3 := X6.out.cell 3 rfl
                have c4 := X6.out.cell 4 rfl
                have c5 := X6.out.cell 5 rfl
                have c6 := X6.out.cell 6 rfl
                have c7 := X6.out.cell 7 rfl
                cases bR
                case false =>
                  as_aux_lemma =>
                    go_wp2_with fail
                    go_ret
                    exact ⟨_, rfl, (fun h => absurd h (by decide)), ext_trans HBW.out HB6.out⟩
                as_aux_lemma =>
                  go_wp2_with fail
                  refine (HINT.out _).mono ?_
                  rintro e w7 ⟨rfl, hb⟩
                  have X7 := Lib.hid (X6.out.below hb)
                  have HB7 := Lib.hid (ext_trans HB6.out hb)
                  clear hb c0 c1 c2 c3 c4 c5 c6 c7 X6 HB6
                  have c0 := X7.out.cell 0 rfl
                  have c1 := X7.out.cell 1 rfl
                  have c2 := X7.out.cell 2 rfl
                  have c3 := X7.out.cell 3 rfl
                  have c4 := X7.out.cell 4 rfl
                  have c5 := X7.out.cell 5 rfl
                  have c6 := X7.out.cell 6 rfl
                  have c7 := X7.out.cell 7 rfl
                  cases bA
                  case false =>
                    as_aux_lemma =>
                      go_wp2_with fail
                      go_ret
                      exact ⟨_, rfl, (fun h => absurd h (by decide)), ext_trans HBW.out HB7.out⟩
                  as_aux_lemma =>
                    go_wp2_with fail
                    refine (HINH.out _).mono ?_
                    rintro e w8 ⟨rfl, hb⟩
                    have X8 := Lib.hid (X7.out.below hb)
                    have HB8 := Lib.hid (ext_trans HB7.out hb)
                    clear hb c0 c1 c2 c3 c4 c5 c6 c7 X7 HB7
                    have c0 := X8.out.cell 0 rfl
                    have c1 := X8.out.cell 1 rfl
                    have c2 := X8.out.cell 2 rfl
                    have c3 := X8.out.cell 3 rfl
                    have c4 := X8.out.cell 4 rfl
                    have c5 := X8.out.cell 5 rfl
                    have c6 := X8.out.cell 6 rfl
                    have c7 := X8.out.cell 7 rfl
                    cases bH
                    case false =>
                      as_aux_lemma =>
                        go_wp2_with fail
                        go_ret
                        exact ⟨_, rfl, (fun h => absurd h (by decide)), ext_trans HBW.out HB8.out⟩
                    as_aux_lemma =>
                      go_upto_region 14 with (fail)
                      go_cut [56] (fun v wc => ∃ c : Bool, v = .bool c ∧ Hid (c = !decide (x6 = 1 ↔ 0 < x5)) ∧ Hid (Below w8.heap.size w8 wc))
                      case first =>
                        by_cases h1 : x6 = 1
                        case pos =>
                          subst h1
                          by_cases h2 : 0 < x5
                          case pos =>
                            have HEE : Hid (false = !decide ((1 : Int) = 1 ↔ 0 < x5)) := by show _ = _; simp [h2]
                            as_aux_lemma =>
                              go_wp2_with fail
                              go_meet
                              exact ⟨false, rfl, HEE.out, Below.refl _ _⟩
                          have h2b : x5 ≤ 0 := by omega
                          have HEE : Hid (true = !decide ((1 : Int) = 1 ↔ 0 < x5)) := by show _ = _; simp [h2b]
                          as_aux_lemma =>
                            go_wp2_with fail
                            go_meet
                            exact ⟨true, rfl, HEE.out, Below.refl _ _⟩
                        have h1b : (x6 == 1) = false := by simpa using h1
                        by_cases h2 : 0 < x5
                        case pos =>
                          have HEE : Hid (true = !decide (x6 = 1 ↔ 0 < x5)) := by show _ = _; simp [h1, h2]
                          as_aux_lemma =>
                            go_wp2_with fail
                            go_meet
                            exact ⟨true, rfl, HEE.out, Below.refl _ _⟩
                        have h2b : x5 ≤ 0 := by omega
                        have HEE : Hid (false = !decide (x6 = 1 ↔ 0 < x5)) := by show _ = _; simp [h1, h2b]
                        as_aux_lemma =>
                          go_wp2_with fail
                          go_meet
                          exact ⟨false, rfl, HEE.out, Below.refl _ _⟩
                      case rest =>
                        obtain ⟨c, rfl, hc, hV⟩ := hcut
                        obtain ⟨w9, rfl⟩ : ∃ x : World, x = wc := ⟨_, rfl⟩
                        have X9 := Lib.hid (X8.out.below hV.out)
                        have HB9 := Lib.hid (ext_trans HB8.out hV.out)
                        clear hV X8 HB8
                        have c0 := X9.out.cell 0 rfl
                        have c1 := X9.out.cell 1 rfl
                        have c2 := X9.out.cell 2 rfl
                        have c3 := X9.out.cell 3 rfl
                        have c4 := X9.out.cell 4 rfl
                        have c5 := X9.out.cell 5 rfl
                        have c6 := X9.out.cell 6 rfl
                        have c7 := X9.out.cell 7 rfl
                        cases c
                        case true =>
                          as_aux_lemma =>
                            go_wp2_with fail
                            go_ret
                            exact ⟨_, rfl, (fun h => absurd h (by decide)), ext_trans HBW.out HB9.out⟩
                        have HEN : Hid (x6 = 1 ↔ 0 < x5) := by
                          show _ ↔ _
                          have h9 := hc.out
                          simpa using h9
                        clear hc
                        as_aux_lemma =>
                          go_upto_region 16 with (fail)
                          go_cut [64] (fun v wc => ∃ c : Bool, v = .bool c ∧ Hid (c = false ↔ (xc = [] ∨ bC = true)) ∧ Hid (Below w9.heap.size w9 wc))
                          case first =>
                            by_cases hx : xc = []
                            case pos =>
                              subst hx
                              as_aux_lemma =>
                                go_wp2_with fail
                                go_meet
                                exact ⟨false, rfl, (by show _ ↔ _; simp), Below.refl _ _⟩
                            have hxe : (xc == []) = false := beq_eq_false_iff_ne.2 hx
                            have hxn : (xc != []) = true := bne_iff_ne.2 hx
                            have hxm : xc.isEmpty = false := by cases xc with | nil => exact absurd rfl hx | cons => rfl
                            have HXX := Lib.hid hx
                            as_aux_lemma =>
                              go_wp2_with fail
                              refine (HK2.out _).mono ?_
                              rintro e wb ⟨rfl, hb⟩
                              have HBb := Lib.hid hb
                              clear hb
                              cases bC
                              case false =>
                                as_aux_lemma =>
                                  go_wp2_with fail
                                  go_meet
                                  exact ⟨true, rfl, (by show _ ↔ _; simp [HXX.out]), HBb.out⟩
                              as_aux_lemma =>
                                go_wp2_with fail
                                go_meet
                                exact ⟨false, rfl, (by show _ ↔ _; simp), HBb.out⟩
                          case rest =>
                            obtain ⟨c, rfl, hc, hV⟩ := hcut
                            obtain ⟨w10, rfl⟩ : ∃ x : World, x = wc := ⟨_, rfl⟩
                            have X10 := Lib.hid (X9.out.below hV.out)
                            have HB10 := Lib.hid (ext_trans HB9.out hV.out)
                            clear hV X9 HB9
                            have c0 := X10.out.cell 0 rfl
                            have c1 := X10.out.cell 1 rfl
                            have c2 := X10.out.cell 2 rfl
                            have c3 := X10.out.cell 3 rfl
                            have c4 := X10.out.cell 4 rfl
                            have c5 := X10.out.cell 5 rfl
                            have c6 := X10.out.cell 6 rfl
                            have c7 := X10.out.cell 7 rfl
                            cases c
                            case true =>
                              as_aux_lemma =>
                                go_wp2_with fail
                                go_ret
                                exact ⟨_, rfl, (fun h => absurd h (by decide)), ext_trans HBW.out HB10.out⟩
                            have HCR : Hid (xc = [] ∨ bC = true) := hc.out.1 rfl
                            clear hc
                            have HGX : Hid (RecGood x) := HGOOD.out (by first | exact HEbK.out.symm | exact HEbK.out) (by first | exact HEbF.out.symm | exact HEbF.out) (by first | exact HEbT.out.symm | exact HEbT.out) (by first | exact HEbM.out.symm | exact HEbM.out) (by first | exact HEbR.out.symm | exact HEbR.out) (by first | exact HEbA.out.symm | exact HEbA.out) (by first | exact HEbH.out.symm | exact HEbH.out) (by rw [← HZ6.out, ← HZ5.out]; exact HEN.out) (by rw [← HEbC.out, ← HZC.out]; exact HCR.out)
                            as_aux_lemma =>
                              go_upto_region 18 with (fail)
                              go_cut [74] (fun v wc => ∃ c : Bool, v = .bool c ∧ Hid (c = false → ∀ i1, i = i1 + 1 → recOrd (l.getD i1 default) x < 0) ∧ Hid ((∀ i1, i = i1 + 1 → recOrd (l.getD i1 default) x < 0) → c = false) ∧ Hid (Below w10.heap.size w10 wc))
                              case first =>
                                have hd : Below w10.heap.size w10 w10.drew := ext_drew (Below.refl _ _)
                                have XD := Lib.hid (X10.out.below hd)
                                have HBD := Lib.hid (ext_trans HB10.out hd)
                                have HVD := Lib.hid hd
                                clear hd X10 HB10 c0 c1 c2 c3 c4 c5 c6 c7
                                by_cases hiz : i = 0
                                case pos =>
                                  have HIZ := Lib.hid hiz
                                  have HEE : Hid (∀ i1, i = i1 + 1 → recOrd (l.getD i1 default) x < 0) := fun i1 h => absurd h (by omega)
                                  clear hiz HCM HPREV
                                  as_aux_lemma =>
                                    refine region_seqI (S := fun W9 => Below w10.drew.heap.size w10.drew W9) [(true, 0), (true, 1), (true, 2), (true, 3), (true, 4), (true, 5), (true, 6), (true, 7), (true, 8), (true, 9), (true, 10), (true, 11), (true, 12)] (by kernel_rfl) (by kernel_rfl) rfl (by kernel_rfl) (Below.refl _ _) ?_
                                    generalize w10.drew = wd at XD HBD HVD ⊢
                                    simp only [seqOps, List.getD_cons_zero, List.getD_cons_succ]
                                    refine seqI_take (v := .int .i64 i) rfl (fun W9 hW => by clear hW; go_simp) (fun _ _ _ h => h) ?_
                                    simp only [Act.put, List.setIfInBounds_toArray, List.set_cons_zero, List.set_cons_succ]
                                    refine seqI_take (v := .bool false) rfl (fun W9 hW => by clear hW; go_simp; exact HIZ.out) (fun _ _ _ h => h) ?_
                                    simp only [Act.put, List.setIfInBounds_toArray, List.set_cons_zero, List.set_cons_succ]
                                    refine seqI_take (v := .bool false) rfl (fun W9 hW => by clear hW; go_simp) (fun _ _ _ h => h) ?_
                                    simp only [Act.put, List.setIfInBounds_toArray, List.set_cons_zero, List.set_cons_succ]
                                    refine seqI_skip rfl (fun _ _ _ h => h) ?_
                                    simp only [Act.put, List.setIfInBounds_toArray, List.set_cons_zero, List.set_cons_succ]
                                    refine seqI_skip rfl (fun _ _ _ h => h) ?_
                                    simp only [Act.put, List.setIfInBounds_toArray, List.set_cons_zero, List.set_cons_succ]
                                    refine seqI_skip rfl (fun _ _ _ h => h) ?_
                                    simp only [Act.put, List.setIfInBounds_toArray, List.set_cons_zero, List.set_cons_succ]
                                    refine seqI_skip rfl (fun _ _ _ h => h) ?_
                                    simp only [Act.put, List.setIfInBounds_toArray, List.set_cons_zero, List.set_cons_succ]
                                    refine seqI_skip rfl (fun _ _ _ h => h) ?_
                                    simp only [Act.put, List.setIfInBounds_toArray, List.set_cons_zero, List.set_cons_succ]
                                    refine seqI_skip rfl (fun _ _ _ h => h) ?_
                                    simp only [Act.put, List.setIfInBounds_toArray, List.set_cons_zero, List.set_cons_succ]
                                    refine seqI_skip rfl (fun _ _ _ h => h) ?_
                                    simp only [Act.put, List.setIfInBounds_toArray, List.set_cons_zero, List.set_cons_succ]
                                    refine seqI_skip rfl (fun _ _ _ h => h) ?_
                                    simp only [Act.put, List.setIfInBounds_toArray, List.set_cons_zero, List.set_cons_succ]
                                    refine seqI_take (v := .bool false) rfl (fun W9 hW => by clear hW; go_simp) (fun _ _ _ h => h) ?_
                                    simp only [Act.put, List.setIfInBounds_toArray, List.set_cons_zero, List.set_cons_succ]
                                    refine seqI_take (v := .bool false) rfl (fun W9 hW => by clear hW; go_simp) (fun _ _ _ h => h) ?_
                                    simp only [Act.put, List.setIfInBounds_toArray, List.set_cons_zero, List.set_cons_succ]
                                    refine seqI_nil ?_
                                    go_wp2_with fail
                                    go_meet
                                    exact ⟨false, rfl, (fun _ => HEE.out), (fun _ => rfl), HVD.out⟩
                                obtain ⟨i1, hi1⟩ : ∃ i1, i = i1 + 1 := ⟨i - 1, by omega⟩
                                have HI1 := Lib.hid hi1
                                have hip : 0 < i := by omega
                                have HIP := Lib.hid hip
                                have hw1 : IntKind.i64.wrap ((i : Int) - 1) = (i1 : Int) := by rw [show (i : Int) - 1 = (i1 : Int) by omega]; exact IntWalk.i64_in _ (by omega)
                                have h1n : (i1 : Int) < (n : Int) := by omega
                                have h10 : ¬ ((i1 : Int) < 0) := by omega
                                have HC1 := Lib.hid (HCM.out i1 hi1)
                                have HP1 := Lib.hid (HPREV.out i1 hi1)
                                clear hiz hi1 hip HCM HPREV
                                obtain ⟨r, hr⟩ : ∃ r, r = recOrd (l.getD i1 default) x := ⟨_, rfl⟩
                                have HR := Lib.hid hr
                                rw [← hr] at HC1
                                have HC2 : Hid (∀ W, Calls Tryz.prog 73 #[.agg #[.string ⟨(l.getD i1 default).id.toArray⟩, .string ⟨(l.getD i1 default).frm.toArray⟩, .string ⟨(l.getD i1 default).to_.toArray⟩, .int .i64 (l.getD i1 default).at_, .int .i64 (l.getD i1 default).ring, .int .i64 (l.getD i1 default).talk, .int .i64 (l.getD i1 default).how, .string ⟨(l.getD i1 default).car.toArray⟩], .agg #[.string ⟨xi.toArray⟩, .string b1, .string b2, .int .i64 x3, .int .i64 x4, .int .i64 x5, .int .i64 x6, .string ⟨xc.toArray⟩]] W fun e w' => e = .returned (.int .i64 r) ∧ Below W.heap.size W w') := HC1.out
                                clear hr HC1
                                generalize (⟨(l.getD i1 default).id.toArray⟩ : ByteArray) = z0 at HP1 HC2
                                generalize (⟨(l.getD i1 default).frm.toArray⟩ : ByteArray) = z1 at HP1 HC2
                                generalize (⟨(l.getD i1 default).to_.toArray⟩ : ByteArray) = z2 at HP1 HC2
                                generalize (l.getD i1 default).at_ = z3 at HP1 HC2
                                generalize (l.getD i1 default).ring = z4 at HP1 HC2
                                generalize (l.getD i1 default).talk = z5 at HP1 HC2
                                generalize (l.getD i1 default).how = z6 at HP1 HC2
                                generalize (⟨(l.getD i1 default).car.toArray⟩ : ByteArray) = z7 at HP1 HC2
                                have HCE : Hid (∀ W9, Below w10.drew.heap.size w10.drew W9 → (W9.cell? ⟨g, i1 * 8, none⟩ = some (.string z0) ∧ W9.cell? ⟨g, i1 * 8 + 1, none⟩ = some (.string z1) ∧ W9.cell? ⟨g, i1 * 8 + 2, none⟩ = some (.string z2) ∧ W9.cell? ⟨g, i1 * 8 + 3, none⟩ = some (.int .i64 z3) ∧ W9.cell? ⟨g, i1 * 8 + 4, none⟩ = some (.int .i64 z4) ∧ W9.cell? ⟨g, i1 * 8 + 5, none⟩ = some (.int .i64 z5) ∧ W9.cell? ⟨g, i1 * 8 + 6, none⟩ = some (.int .i64 z6) ∧ W9.cell? ⟨g, i1 * 8 + 7, none⟩ = some (.string z7)) ∧ (W9.cell? ⟨B, 0, none⟩ = some (.string ⟨xi.toArray⟩) ∧ W9.cell? ⟨B, 1, none⟩ = some (.string b1) ∧ W9.cell? ⟨B, 2, none⟩ = some (.string b2) ∧ W9.cell? ⟨B, 3, none⟩ = some (.int .i64 x3) ∧ W9.cell? ⟨B, 4, none⟩ = some (.int .i64 x4) ∧ W9.cell? ⟨B, 5, none⟩ = some (.int .i64 x5) ∧ W9.cell? ⟨B, 6, none⟩ = some (.int .i64 x6) ∧ W9.cell? ⟨B, 7, none⟩ = some (.string ⟨xc.toArray⟩))) := fun W9 hW => ⟨HP1.out W9 (ext_trans HBW.out (ext_trans HBD.out hW)), ⟨(XD.out.below hW).cell 0 rfl, (XD.out.below hW).cell 1 rfl, (XD.out.below hW).cell 2 rfl, (XD.out.below hW).cell 3 rfl, (XD.out.below hW).cell 4 rfl, (XD.out.below hW).cell 5 rfl, (XD.out.below hW).cell 6 rfl, (XD.out.below hW).cell 7 rfl⟩⟩
                                clear HP1
                                as_aux_lemma =>
                                  refine region_seqI (S := fun W9 => Below w10.drew.heap.size w10.drew W9) [(true, 0), (true, 1), (true, 2), (true, 3), (true, 4), (true, 5), (true, 6), (true, 7), (true, 8), (false, 9), (true, 10), (true, 11), (true, 12)] (by kernel_rfl) (by kernel_rfl) rfl (by kernel_rfl) (Below.refl _ _) ?_
                                  generalize w10.drew = wd at XD HBD HCE HVD ⊢
                                  simp only [seqOps, List.getD_cons_zero, List.getD_cons_succ]
                                  refine seqI_take (v := .int .i64 i) rfl (fun W9 hW => by clear hW; go_simp) (fun _ _ _ h => h) ?_
                                  simp only [Act.put, List.setIfInBounds_toArray, List.set_cons_zero, List.set_cons_succ]
                                  refine seqI_take (v := .bool true) rfl (fun W9 hW => by clear hW; go_simp; exact HIP.out) (fun _ _ _ h => h) ?_
                                  simp only [Act.put, List.setIfInBounds_toArray, List.set_cons_zero, List.set_cons_succ]
                                  refine seqI_take (v := .bool true) rfl (fun W9 hW => by clear hW; go_simp) (fun _ _ _ h => h) ?_
                                  simp only [Act.put, List.setIfInBounds_toArray, List.set_cons_zero, List.set_cons_succ]
                                  refine seqI_take (v := .slice (some ⟨g, 0, none⟩) n cap) rfl (fun W9 hW => by clear hW; go_simp) (fun _ _ _ h => h) ?_
                                  simp only [Act.put, List.setIfInBounds_toArray, List.set_cons_zero, List.set_cons_succ]
                                  refine seqI_take (v := .int .i64 i) rfl (fun W9 hW => by clear hW; go_simp) (fun _ _ _ h => h) ?_
                                  simp only [Act.put, List.setIfInBounds_toArray, List.set_cons_zero, List.set_cons_succ]
                                  refine seqI_take (v := .int .i64 i1) rfl (fun W9 hW => by clear hW; go_simp) (fun _ _ _ h => h) ?_
                                  simp only [Act.put, List.setIfInBounds_toArray, List.set_cons_zero, List.set_cons_succ]
                                  refine seqI_take (v := .pointer (some ⟨g, i1 * 8, none⟩)) rfl (fun W9 hW => by clear hW; go_simp) (fun _ _ _ h => h) ?_
                                  simp only [Act.put, List.setIfInBounds_toArray, List.set_cons_zero, List.set_cons_succ]
                                  refine seqI_take (v := .agg #[.string z0, .string z1, .string z2, .int .i64 z3, .int .i64 z4, .int .i64 z5, .int .i64 z6, .string z7]) rfl (fun W9 hW => by obtain ⟨⟨p0, p1, p2, p3, p4, p5, p6, p7⟩, ⟨q0, q1, q2, q3, q4, q5, q6, q7⟩⟩ := HCE.out W9 hW; clear hW; go_simp) (fun _ _ _ h => h) ?_
                                  simp only [Act.put, List.setIfInBounds_toArray, List.set_cons_zero, List.set_cons_succ]
                                  refine seqI_take (v := .agg #[.string ⟨xi.toArray⟩, .string b1, .string b2, .int .i64 x3, .int .i64 x4, .int .i64 x5, .int .i64 x6, .string ⟨xc.toArray⟩]) rfl (fun W9 hW => by obtain ⟨⟨p0, p1, p2, p3, p4, p5, p6, p7⟩, ⟨q0, q1, q2, q3, q4, q5, q6, q7⟩⟩ := HCE.out W9 hW; clear hW; go_simp) (fun _ _ _ h => h) ?_
                                  simp only [Act.put, List.setIfInBounds_toArray, List.set_cons_zero, List.set_cons_succ]
                                  refine seqI_call _ _ rfl (by go_simp) (HC2.out wd) ?_
                                  rintro e w9 ⟨rfl, hb⟩
                                  have HV9 := Lib.hid (ext_trans HVD.out hb)
                                  refine ⟨_, rfl, hb, ?_⟩
                                  simp only [Act.put, List.setIfInBounds_toArray, List.set_cons_zero, List.set_cons_succ]
                                  clear hb HCE XD HBD HC2 HVD
                                  by_cases hr0 : r < 0
                                  case neg =>
                                    have hr1 : 0 ≤ r := by omega
                                    have HEE : Hid (¬ ∀ i1, i = i1 + 1 → recOrd (l.getD i1 default) x < 0) := fun h => absurd (h i1 HI1.out) (by rw [← HR.out]; exact hr0)
                                    refine seqI_take (v := .bool true) rfl (fun W9 hW => by clear hW; go_simp) (fun _ _ _ h => h) ?_
                                    simp only [Act.put, List.setIfInBounds_toArray, List.set_cons_zero, List.set_cons_succ]
                                    refine seqI_take (v := .bool true) rfl (fun W9 hW => by clear hW; go_simp) (fun _ _ _ h => h) ?_
                                    simp only [Act.put, List.setIfInBounds_toArray, List.set_cons_zero, List.set_cons_succ]
                                    refine seqI_take (v := .bool true) rfl (fun W9 hW => by clear hW; go_simp) (fun _ _ _ h => h) ?_
                                    simp only [Act.put, List.setIfInBounds_toArray, List.set_cons_zero, List.set_cons_succ]
                                    refine seqI_nil ?_
                                    go_wp2_with fail
                                    go_meet
                                    exact ⟨true, rfl, (fun h => by cases h), (fun h => absurd h HEE.out), HV9.out⟩
                                  have hr1 : ¬ (0 ≤ r) := by omega
                                  have HEE : Hid (∀ i2, i = i2 + 1 → recOrd (l.getD i2 default) x < 0) := fun i2 h => by
                                    have e : i2 = i1 := by have := HI1.out; omega
                                    rw [e, ← HR.out]; exact hr0
                                  refine seqI_take (v := .bool false) rfl (fun W9 hW => by clear hW; go_simp) (fun _ _ _ h => h) ?_
                                  simp only [Act.put, List.setIfInBounds_toArray, List.set_cons_zero, List.set_cons_succ]
                                  refine seqI_take (v := .bool false) rfl (fun W9 hW => by clear hW; go_simp) (fun _ _ _ h => h) ?_
                                  simp only [Act.put, List.setIfInBounds_toArray, List.set_cons_zero, List.set_cons_succ]
                                  refine seqI_take (v := .bool false) rfl (fun W9 hW => by clear hW; go_simp) (fun _ _ _ h => h) ?_
                                  simp only [Act.put, List.setIfInBounds_toArray, List.set_cons_zero, List.set_cons_succ]
                                  refine seqI_nil ?_
                                  go_wp2_with fail
                                  go_meet
                                  exact ⟨false, rfl, (fun _ => HEE.out), (fun _ => rfl), HV9.out⟩
                              case rest =>
                                obtain ⟨c, rfl, hc, hc2, hV⟩ := hcut
                                obtain ⟨w11, rfl⟩ : ∃ x : World, x = wc := ⟨_, rfl⟩
                                have X11 := Lib.hid (X10.out.below hV.out)
                                have HB11 := Lib.hid (ext_trans HB10.out hV.out)
                                clear hV X10 HB10
                                have c0 := X11.out.cell 0 rfl
                                have c1 := X11.out.cell 1 rfl
                                have c2 := X11.out.cell 2 rfl
                                have c3 := X11.out.cell 3 rfl
                                have c4 := X11.out.cell 4 rfl
                                have c5 := X11.out.cell 5 rfl
                                have c6 := X11.out.cell 6 rfl
                                have c7 := X11.out.cell 7 rfl
                                cases c
                                case true =>
                                  as_aux_lemma =>
                                    go_wp2_with fail
                                    go_ret
                                    exact ⟨_, rfl, (fun h => absurd h (by decide)), ext_trans HBW.out HB11.out⟩
                                have HLX : Hid (∀ i1, i = i1 + 1 → (l.getD i1 default).lt x) := fun i1 h => (recOrd_neg (HB.out _ (rget_mem (by have := HN.out; omega))) HBX.out).1 (hc.out rfl i1 h)
                                clear hc hc2
                                as_aux_lemma =>
                                  go_wp2_with fail
                                  go_roundw
                                  case rel => exact ⟨i + 1, by omega, by go_num, (fun m hm => (by
                                    by_cases e : m = i
                                    · rw [e, ← HX.out]; exact HGX.out
                                    · exact HG.out m (by omega))), (fun m hm => (by
                                    by_cases e : m + 1 = i
                                    · rw [e, ← HX.out]; exact HLX.out m e.symm
                                    · exact HLT.out m (by omega))), ext_trans HBW.out HB11.out⟩
                                  case measure => simp [intOf]; omega
end Go.Proofs.YtleagenhnchjdaaGreatDoor

set_option linter.unusedVariables false
set_option linter.unusedSimpArgs false
namespace Go.Proofs.YtleagenhnchjdaaGreatDoor
open Go.RowKit Go.Lib

set_option maxRecDepth 100000 in
theorem recId_call (xi k : List UInt8) (x1 x2 x7 : ByteArray) (x3 x4 x5 x6 : Int) (A : Nat) (W : World) (hA : A < W.heap.size) (c0 : W.cell? ⟨A, 0, none⟩ = some (.string ⟨k.toArray⟩)) :
    Calls Tryz.prog 71 #[.agg #[.string ⟨xi.toArray⟩, .string x1, .string x2, .int .i64 x3, .int .i64 x4, .int .i64 x5, .int .i64 x6, .string x7], .pointer (some ⟨A, 0, none⟩)] W (BoolP (decide (xi = k)) W) := by
  have hne : A ≠ W.heap.size := by omega
  by_cases h : xi = k
  · subst h
    go_enter Tryz.func71, Tryz.ntmps71
    go_wp2_with fail
    go_ret
    exact ⟨by simp, (by (try show Below _ _ _); repeat (with_reducible first | exact Below.refl _ _ | assumption | exact Hid.out (by assumption) | refine ext_alloc ?_ | refine ext_drewN ?_ | refine ext_drew ?_ | refine ext_setCell ?_ (Nat.le_refl _) | refine ext_setCell ?_ (Nat.le_succ _) | refine ext_trans ?_ (by assumption) | (refine ext_setCell ?_ (by simp)) | (refine ext_setCell ?_ (by simp at *; omega))))⟩
  · have hb : (xi == k) = false := beq_eq_false_iff_ne.2 h
    go_enter Tryz.func71, Tryz.ntmps71
    go_wp2_with fail
    go_ret
    exact ⟨by simp [h], (by (try show Below _ _ _); repeat (with_reducible first | exact Below.refl _ _ | assumption | exact Hid.out (by assumption) | refine ext_alloc ?_ | refine ext_drewN ?_ | refine ext_drew ?_ | refine ext_setCell ?_ (Nat.le_refl _) | refine ext_setCell ?_ (Nat.le_succ _) | refine ext_trans ?_ (by assumption) | (refine ext_setCell ?_ (by simp)) | (refine ext_setCell ?_ (by simp at *; omega))))⟩
theorem recId_pred (k : List UInt8) (A : Nat) (w : World) (hA : A < w.heap.size) (c0 : w.cell? ⟨A, 0, none⟩ = some (.string ⟨k.toArray⟩)) : PredBelow Tryz.prog 71 #[.pointer (some ⟨A, 0, none⟩)] (fun x : Vrec => .agg (Vrec.cells x).toArray) (fun x => decide (x.id = k)) w := fun W x hb =>
  (recId_call x.id k ⟨x.frm.toArray⟩ ⟨x.to_.toArray⟩ ⟨x.car.toArray⟩ x.at_ x.ring x.talk x.how A W (Nat.lt_of_lt_of_le hA hb.size) ((hb.cell (p := ⟨A, 0, none⟩) hA).trans c0)).mono fun e w' h => ⟨h.1, ext_trans hb h.2⟩
theorem idxR_nil (a : Option Addr) (c : Nat) (fv : Value) (w : World) : Calls Tryz.prog 13 #[.slice a 0 c, fv] w fun e w' => e = .returned (.int .i64 (-1)) ∧ w = w' := by
  go_enter Tryz.func13, Tryz.ntmps13
  go_wp2_with fail
  go_loopw [8] (fun i wr => i = .int .i64 0 ∧ wr = w) (fun i _ => 0)
  case atStart => exact ⟨rfl, rfl⟩
  case round =>
    obtain ⟨rfl, rfl⟩ := hrel
    go_wp2_with fail
    go_ret
    exact ⟨rfl, rfl⟩
theorem idxR_any (g : Nat) (lb : Array Value) (eg : ∀ args w, (callFunc g args).run Tryz.prog w = .ok (.enter g args) w) (w : World) (base : Nat) (v : Value) (l : List Vrec) (h : VrecRow w base v l) (hm : l.length ≤ 1000) (p : Vrec → Bool) (hp : PredBelow Tryz.prog g lb (fun x : Vrec => .agg (Vrec.cells x).toArray) p w) :
    Calls Tryz.prog 13 #[v, .func (.func g) #[] lb] w fun e w' => ∃ D : Int, e = .returned (.int .i64 D) ∧ Below w.heap.size w w' := by
  unfold VrecRow at h
  obtain ⟨a, c, rfl⟩ := own_shape h
  by_cases h0 : l.length = 0
  · obtain rfl : l = [] := List.length_eq_zero_iff.1 h0
    exact (idxR_nil a c _ w).mono (by rintro e w' ⟨rfl, rfl⟩; exact ⟨_, rfl, Below.refl _ _⟩)
  · obtain ⟨g2, rfl, _, hg1⟩ := own_pos h (by omega)
    have := Tryz.slices_idxR Vrec.cells (fun _ => rfl) p g lb eg g2 0 l.length c l w hp (Nat.le_refl _) (by omega) hg1 (fun j hj i v hv => by
      rw [bang_is hj] at hv
      rw [Nat.zero_add]
      exact own_field Vrec.cells (fun _ => rfl) h j i default hj (by have := (List.getElem?_eq_some_iff.1 hv).1; exact this) hv)
    exact this.mono (fun e w' h => ⟨_, h.1, h.2⟩)
theorem hasR_any (g : Nat) (lb : Array Value) (eg : ∀ args w, (callFunc g args).run Tryz.prog w = .ok (.enter g args) w) (w : World) (base : Nat) (v : Value) (l : List Vrec) (h : VrecRow w base v l) (hm : l.length ≤ 1000) (p : Vrec → Bool) (hp : PredBelow Tryz.prog g lb (fun x : Vrec => .agg (Vrec.cells x).toArray) p w) :
    Calls Tryz.prog 70 #[v, .func (.func g) #[] lb] w fun e w' => ∃ b : Bool, e = .returned (.bool b) ∧ Below w.heap.size w w' := by
  have HI := Lib.hid (idxR_any g lb eg w base v l h hm p hp)
  clear h hp
  go_enter Tryz.func70, Tryz.ntmps70
  go_wp2_with fail
  refine HI.out.mono ?_
  rintro e w' ⟨D, rfl, hb'⟩
  have HB := Lib.hid hb'
  clear hb'
  go_wp2_with fail
  go_ret
  exact ⟨_, rfl, HB.out⟩
end Go.Proofs.YtleagenhnchjdaaGreatDoor

set_option linter.unusedVariables false
set_option linter.unusedSimpArgs false
namespace Go.Proofs.YtleagenhnchjdaaGreatDoor
open Go.RowKit Go.Sort Go.Lib

theorem swp_mem {α : Type} [Inhabited α] {d : Array α} {i j : Nat} (hi : i < d.size) (hj : j < d.size) {x : α} (h : x ∈ swp d i j) : x ∈ d := by
  unfold swp at h
  have e : ∀ k, k < d.size → d[k]! ∈ d := fun k hk => by rw [getElem!_pos d k hk]; exact Array.getElem_mem hk
  rcases Array.mem_or_eq_of_mem_setIfInBounds h with h | h
  · rcases Array.mem_or_eq_of_mem_setIfInBounds h with h | h
    · exact h
    · rw [h]; exact e _ hj
  · rw [h]; exact e _ hi
theorem insInner_mem {α : Type} [Inhabited α] (lt : α → α → Bool) (a : Nat) : ∀ (j : Nat) (d : Array α), j < d.size → (insInner lt a j d).size = d.size ∧ ∀ x, x ∈ insInner lt a j d → x ∈ d
  | 0, d, _ => ⟨rfl, fun x h => h⟩
  | j + 1, d, hj => by
    unfold insInner
    split
    · have hs : (swp d (j + 1) j).size = d.size := by unfold swp; simp
      have ih := insInner_mem lt a j (swp d (j + 1) j) (by omega)
      exact ⟨ih.1.trans hs, fun x h => swp_mem hj (by omega) (ih.2 x h)⟩
    · exact ⟨rfl, fun x h => h⟩
theorem insOuter_mem {α : Type} [Inhabited α] (lt : α → α → Bool) (a b : Nat) : ∀ (n i : Nat) (d : Array α), b - i = n → b ≤ d.size → ∀ x, x ∈ insOuter lt a b i d → x ∈ d
  | 0, i, d, hn, hb => fun x h => by
    unfold insOuter at h
    rw [if_neg (by omega)] at h
    exact h
  | n + 1, i, d, hn, hb => fun x h => by
    unfold insOuter at h
    rw [if_pos (by omega)] at h
    have h1 := insInner_mem lt a i d (by omega)
    exact h1.2 x (insOuter_mem lt a b n (i + 1) _ (by omega) (by omega) x h)
theorem insL_mem {α : Type} [Inhabited α] (lt : α → α → Bool) (l : List α) {x : α} (h : x ∈ insL lt l) : x ∈ l := by
  have h2 : x ∈ insertionSort lt l.toArray 0 l.length := by rw [insL_arr]; simpa using h
  unfold insertionSort at h2
  have := insOuter_mem lt 0 l.length _ _ l.toArray rfl (by simp) x h2
  simpa using this
end Go.Proofs.YtleagenhnchjdaaGreatDoor
