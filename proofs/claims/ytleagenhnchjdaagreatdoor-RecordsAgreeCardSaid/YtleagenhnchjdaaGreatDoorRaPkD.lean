/- What is proved here: lemmas and contracts for the statement, put together out of smaller texts (PortSmall, CmpStr, RecCmp, RecPre, RecMM, GenPick, RecSml, StrSet, RecChk). No condition beyond those stated. -/
import Derived.Test.YtleagenhnchjdaaGreatDoorRaPkB
import Derived.Test.YtleagenhnchjdaaGreatDoorRaPkC
import Derived.Test.YtleagenhnchjdaaGreatDoorShelfPort
import Derived.Test.YtleagenhnchjdaaGreatDoorRaPkA
import Derived.IntWalk
import Derived.Maps.OwnSet
import Derived.Maps.OwnOps
import Derived.StringKeys
import Derived.BigFrame
import Derived.Deep.DeepCutAuto
set_option linter.unusedVariables false
set_option linter.unusedSimpArgs false
namespace Go.Proofs.YtleagenhnchjdaaGreatDoor
open Go.RowKit

set_option maxRecDepth 100000 in
theorem orI_any (a b : Int) (B : Nat) (w : World) (hB : B < w.heap.size) (h0 : w.cell? ⟨B, 0, none⟩ = some (.int .i64 a)) (h1 : w.cell? ⟨B, 1, none⟩ = some (.int .i64 b)) : Calls Tryz.prog 98 #[.slice (some ⟨B, 0, none⟩) 2 2] w fun r w' => r = .returned (.int .i64 (firstE a b)) ∧ w = w' := by
  by_cases ha : a = 0
  · subst ha
    by_cases hb : b = 0
    · subst hb
      go_enter Tryz.func98, Tryz.ntmps98
      go_wp2_with fail
      go_loopw [8] (fun i wr => ∃ k : Nat, k ≤ 2 ∧ i = .int .i64 k ∧ wr = w) (fun i _ => 2 - (intOf i).toNat)
      case atStart => exact ⟨0, by omega, rfl, rfl⟩
      case round =>
        obtain ⟨k, hk, rfl, rfl⟩ := hrel
        have hkc : k = 0 ∨ k = 1 ∨ k = 2 := by omega
        rcases hkc with rfl | rfl | rfl
        · go_wp2_with fail
          go_roundw
          case rel => exact ⟨1, by omega, by go_num, trivial⟩
          case measure => simp [intOf]
        · go_wp2_with fail
          go_roundw
          case rel => exact ⟨2, by omega, by go_num, trivial⟩
          case measure => simp [intOf]
        · go_wp2_with fail
          go_ret
          exact ⟨rfl, rfl⟩
    · have hbb : (b == 0) = false := by simpa using hb
      have HF : Hid (firstE 0 b = b) := by show _ = _; unfold firstE; rw [if_neg (by simp)]
      go_enter Tryz.func98, Tryz.ntmps98
      go_wp2_with fail
      go_loopw [8] (fun i wr => ∃ k : Nat, k ≤ 1 ∧ i = .int .i64 k ∧ wr = w) (fun i _ => 2 - (intOf i).toNat)
      case atStart => exact ⟨0, by omega, rfl, rfl⟩
      case round =>
        obtain ⟨k, hk, rfl, rfl⟩ := hrel
        have hkc : k = 0 ∨ k = 1 := by omega
        rcases hkc with rfl | rfl
        · go_wp2_with fail
          go_roundw
          case rel => exact ⟨1, by omega, by go_num, trivial⟩
          case measure => simp [intOf]
        · go_wp2_with fail
          go_ret
          exact ⟨by rw [HF.out]; rfl, rfl⟩
  · have hab : (a == 0) = false := by simpa using ha
    have HF : Hid (firstE a b = a) := by show _ = _; unfold firstE; rw [if_pos ha]
    go_enter Tryz.func98, Tryz.ntmps98
    go_wp2_with fail
    go_loopw [8] (fun i wr => i = .int .i64 0 ∧ wr = w) (fun i _ => 0)
    case atStart => exact ⟨rfl, rfl⟩
    case round =>
      obtain ⟨rfl, rfl⟩ := hrel
      go_wp2_with fail
      go_ret
      exact ⟨by rw [HF.out]; rfl, rfl⟩

/-- The sign says how two things stand. -/
def SignPost (lt eq : Prop) (w : World) (e : Ending) (w' : World) : Prop := ∃ r : Int, e = .returned (.int .i64 r) ∧ (r < 0 ↔ lt) ∧ (r = 0 ↔ eq) ∧ w' = w
theorem cmpI_any (x y : Int) (w : World) : Calls Tryz.prog 99 #[.int .i64 x, .int .i64 y] w (SignPost (x < y) (x = y) w) := by
  refine (Tryz.cmp_Compare x y w).mono ?_
  rintro e w' ⟨rfl, rfl⟩
  refine ⟨_, rfl, ?_, ?_, rfl⟩ <;> unfold Lib.compareInt <;> split <;> first | omega | (split <;> omega)
theorem cmpB_any (x y : List UInt8) (w : World) : Calls Tryz.prog 81 #[.string ⟨x.toArray⟩, .string ⟨y.toArray⟩] w (SignPost (Op.bytesLess x y = true) (x = y) w) := by
  refine (Tryz.strings_Compare ⟨x.toArray⟩ ⟨y.toArray⟩ w).mono ?_
  rintro e w' ⟨rfl, rfl⟩
  exact ⟨_, rfl, cmp_neg x y, cmp_zero x y, rfl⟩
theorem nanS_any (x : List UInt8) (w : World) : Calls Tryz.prog 180 #[.string ⟨x.toArray⟩] w fun e w' => e = .returned (.bool false) ∧ w' = w := by
  go_enter Tryz.func180, Tryz.ntmps180
  go_wp2_with fail
  go_ret
  exact ⟨by first | rfl | simp, rfl⟩
theorem less_asym {x y : List UInt8} (h : Op.bytesLess x y = true) : Op.bytesLess y x = false ∧ x ≠ y := by
  refine ⟨?_, ?_⟩
  · cases h2 : Op.bytesLess y x with
    | false => rfl
    | true => rw [← less_irrefl x, ← less_trans h h2]
  · rintro rfl
    rw [less_irrefl] at h
    cases h
theorem first_sign {a b : Int} {P Q R : Prop} (h1 : a < 0 ↔ P) (h2 : a = 0 ↔ Q) (h3 : b < 0 ↔ R) : firstE a b < 0 ↔ (P ∨ Q ∧ R) := by
  unfold firstE
  rw [← h1, ← h2, ← h3]
  split <;> omega

theorem idxS (n : Nat) (hn : n < 256) : Lib.indexByte [97, 98, 99, 100, 101, 102, 103, 104, 105, 106, 107, 108, 109, 110, 111, 112, 113, 114, 115, 116, 117, 118, 119, 120, 121, 122] ((n : Int).toNat.toUInt8) = if 97 ≤ n ∧ n ≤ 122 then ((n - 97 : Nat) : Int) else -1 := by
  have : ∀ i : Fin 256, Lib.indexByte [97, 98, 99, 100, 101, 102, 103, 104, 105, 106, 107, 108, 109, 110, 111, 112, 113, 114, 115, 116, 117, 118, 119, 120, 121, 122] ((i.val : Int).toNat.toUInt8) = if 97 ≤ i.val ∧ i.val ≤ 122 then ((i.val - 97 : Nat) : Int) else -1 := by decide +kernel
  exact this ⟨n, hn⟩
theorem smallS (n : Nat) (hn : n < 256) (w : World) : Calls Tryz.prog 160 #[.string ⟨#[97, 98, 99, 100, 101, 102, 103, 104, 105, 106, 107, 108, 109, 110, 111, 112, 113, 114, 115, 116, 117, 118, 119, 120, 121, 122]⟩, .int .u8 n] w fun e w' => e = .returned (.int .i64 (if 97 ≤ n ∧ n ≤ 122 then ((n - 97 : Nat) : Int) else -1)) ∧ w' = w := by
  rw [← idxS n hn]
  exact Tryz.strings_IndexByte _ _ w
end Go.Proofs.YtleagenhnchjdaaGreatDoor

set_option linter.unusedVariables false
set_option linter.unusedSimpArgs false
namespace Go.Proofs.YtleagenhnchjdaaGreatDoor
open Go.RowKit

theorem cb_range : ∀ (a b : List UInt8), -1 ≤ Lib.compareBytes a b ∧ Lib.compareBytes a b ≤ 1
  | [], [] => by simp [Lib.compareBytes]
  | [], _ :: _ => by simp [Lib.compareBytes]
  | _ :: _, [] => by simp [Lib.compareBytes]
  | a :: l1, b :: l2 => by
    unfold Lib.compareBytes
    split
    · omega
    · split
      · omega
      · exact cb_range l1 l2
end Go.Proofs.YtleagenhnchjdaaGreatDoor

set_option linter.unusedVariables false
set_option linter.unusedSimpArgs false
namespace Go.Proofs.YtleagenhnchjdaaGreatDoor
open Go.RowKit Go.Sort Go.Lib

set_option maxRecDepth 100000 in
set_option maxHeartbeats 8000000 in
theorem cmpRec_core (x3 x4 x5 x6 y3 y4 y5 y6 : Int) (x0 x1 x2 x7 y0 y1 y2 y7 : ByteArray) (r0 r1 : Int) (W : World) (h0 : ∀ W, Calls Tryz.prog 99 #[.int .i64 x3, .int .i64 y3] W fun e w' => e = .returned (.int .i64 r0) ∧ w' = W) (h1 : ∀ W, Calls Tryz.prog 81 #[.string x0, .string y0] W fun e w' => e = .returned (.int .i64 r1) ∧ w' = W) :
    Calls Tryz.prog 55 #[.agg #[.string x0, .string x1, .string x2, .int .i64 x3, .int .i64 x4, .int .i64 x5, .int .i64 x6, .string x7], .agg #[.string y0, .string y1, .string y2, .int .i64 y3, .int .i64 y4, .int .i64 y5, .int .i64 y6, .string y7]] W (CmpP (firstE r0 r1) W) := by
  have H0 := Lib.hid h0
  have H1 := Lib.hid h1
  clear h0 h1
  go_enter Tryz.func55, Tryz.ntmps55
  go_upto_region 1 with (fail)
  have HGR : Hid (Grown W ((W.alloc (.cells #[.string x0, .string x1, .string x2, .int .i64 x3, .int .i64 x4, .int .i64 x5, .int .i64 x6, .string x7] 50)).alloc (.cells #[.string y0, .string y1, .string y2, .int .i64 y3, .int .i64 y4, .int .i64 y5, .int .i64 y6, .string y7] 50))) := ((Grown.refl W).alloc _).alloc _
  have HX : Hid (Blk ((W.alloc (.cells #[.string x0, .string x1, .string x2, .int .i64 x3, .int .i64 x4, .int .i64 x5, .int .i64 x6, .string x7] 50)).alloc (.cells #[.string y0, .string y1, .string y2, .int .i64 y3, .int .i64 y4, .int .i64 y5, .int .i64 y6, .string y7] 50)) W.heap.size [.string x0, .string x1, .string x2, .int .i64 x3, .int .i64 x4, .int .i64 x5, .int .i64 x6, .string x7] 50) := (Blk.new W [.string x0, .string x1, .string x2, .int .i64 x3, .int .i64 x4, .int .i64 x5, .int .i64 x6, .string x7] 50).alloc _
  have HY : Hid (Blk ((W.alloc (.cells #[.string x0, .string x1, .string x2, .int .i64 x3, .int .i64 x4, .int .i64 x5, .int .i64 x6, .string x7] 50)).alloc (.cells #[.string y0, .string y1, .string y2, .int .i64 y3, .int .i64 y4, .int .i64 y5, .int .i64 y6, .string y7] 50)) (W.alloc (.cells #[.string x0, .string x1, .string x2, .int .i64 x3, .int .i64 x4, .int .i64 x5, .int .i64 x6, .string x7] 50)).heap.size [.string y0, .string y1, .string y2, .int .i64 y3, .int .i64 y4, .int .i64 y5, .int .i64 y6, .string y7] 50) := Blk.new _ _ _
  have hsz : (W.alloc (.cells #[.string x0, .string x1, .string x2, .int .i64 x3, .int .i64 x4, .int .i64 x5, .int .i64 x6, .string x7] 50)).heap.size = W.heap.size + 1 := by simp
  rw [hsz] at HY
  clear hsz
  generalize ((W.alloc (.cells #[.string x0, .string x1, .string x2, .int .i64 x3, .int .i64 x4, .int .i64 x5, .int .i64 x6, .string x7] 50)).alloc (.cells #[.string y0, .string y1, .string y2, .int .i64 y3, .int .i64 y4, .int .i64 y5, .int .i64 y6, .string y7] 50)) = w1 at HGR HX HY ⊢
  generalize W.heap.size = B at HX HY ⊢
  have hd : Below w1.heap.size w1 w1.drew := ext_drew (Below.refl _ _)
  have HXd := Lib.hid (HX.out.below hd)
  have HYd := Lib.hid (HY.out.below hd)
  have HGd := Lib.hid HGR.out.drew
  clear hd HX HY HGR
  have HCE : Hid (∀ W9, Below w1.drew.heap.size w1.drew W9 → (W9.cell? ⟨B, 0, none⟩ = some (.string x0) ∧ W9.cell? ⟨B, 3, none⟩ = some (.int .i64 x3)) ∧ (W9.cell? ⟨B + 1, 0, none⟩ = some (.string y0) ∧ W9.cell? ⟨B + 1, 3, none⟩ = some (.int .i64 y3))) := fun W9 hW => ⟨⟨(HXd.out.below hW).cell 0 rfl, (HXd.out.below hW).cell 3 rfl⟩, ⟨(HYd.out.below hW).cell 0 rfl, (HYd.out.below hW).cell 3 rfl⟩⟩
  refine region_seqI (S := fun W9 => Below w1.drew.heap.size w1.drew W9) [(true, 0), (true, 1), (true, 2), (true, 3), (true, 5), (true, 6), (true, 7), (true, 8), (false, 4), (false, 9), (false, 10), (false, 11), (true, 12)] (by kernel_rfl) (by kernel_rfl) rfl (by kernel_rfl) (Below.refl _ _) ?_
  generalize w1.drew = wd at HCE HXd HYd HGd ⊢
  simp only [seqOps, List.getD_cons_zero, List.getD_cons_succ]
  refine seqI_take (v := .pointer (some ⟨B, 3, none⟩)) rfl (fun W9 hW => by clear hW; go_simp) (fun _ _ _ h => h) ?_
  simp only [Act.put, List.setIfInBounds_toArray, List.set_cons_zero, List.set_cons_succ]
  refine seqI_take (v := .int .i64 x3) rfl (fun W9 hW => by obtain ⟨⟨p0, p3⟩, ⟨q0, q3⟩⟩ := HCE.out W9 hW; clear hW; go_simp) (fun _ _ _ h => h) ?_
  simp only [Act.put, List.setIfInBounds_toArray, List.set_cons_zero, List.set_cons_succ]
  refine seqI_take (v := .pointer (some ⟨B + 1, 3, none⟩)) rfl (fun W9 hW => by clear hW; go_simp) (fun _ _ _ h => h) ?_
  simp only [Act.put, List.setIfInBounds_toArray, List.set_cons_zero, List.set_cons_succ]
  refine seqI_take (v := .int .i64 y3) rfl (fun W9 hW => by obtain ⟨⟨p0, p3⟩, ⟨q0, q3⟩⟩ := HCE.out W9 hW; clear hW; go_simp) (fun _ _ _ h => h) ?_
  simp only [Act.put, List.setIfInBounds_toArray, List.set_cons_zero, List.set_cons_succ]
  refine seqI_take (v := .pointer (some ⟨B, 0, none⟩)) rfl (fun W9 hW => by clear hW; go_simp) (fun _ _ _ h => h) ?_
  simp only [Act.put, List.setIfInBounds_toArray, List.set_cons_zero, List.set_cons_succ]
  refine seqI_take (v := .string x0) rfl (fun W9 hW => by obtain ⟨⟨p0, p3⟩, ⟨q0, q3⟩⟩ := HCE.out W9 hW; clear hW; go_simp) (fun _ _ _ h => h) ?_
  simp only [Act.put, List.setIfInBounds_toArray, List.set_cons_zero, List.set_cons_succ]
  refine seqI_take (v := .pointer (some ⟨B + 1, 0, none⟩)) rfl (fun W9 hW => by clear hW; go_simp) (fun _ _ _ h => h) ?_
  simp only [Act.put, List.setIfInBounds_toArray, List.set_cons_zero, List.set_cons_succ]
  refine seqI_take (v := .string y0) rfl (fun W9 hW => by obtain ⟨⟨p0, p3⟩, ⟨q0, q3⟩⟩ := HCE.out W9 hW; clear hW; go_simp) (fun _ _ _ h => h) ?_
  simp only [Act.put, List.setIfInBounds_toArray, List.set_cons_zero, List.set_cons_succ]
  refine seqI_call _ _ rfl (by go_simp) (H0.out _) ?_
  rintro e w9 ⟨rfl, hw⟩
  replace hw := hw.symm
  subst hw
  refine ⟨_, rfl, Below.refl _ _, ?_⟩
  simp only [Act.put, List.setIfInBounds_toArray, List.set_cons_zero, List.set_cons_succ]
  refine seqI_call _ _ rfl (by go_simp) (H1.out _) ?_
  rintro e w9 ⟨rfl, hw⟩
  replace hw := hw.symm
  subst hw
  refine ⟨_, rfl, Below.refl _ _, ?_⟩
  simp only [Act.put, List.setIfInBounds_toArray, List.set_cons_zero, List.set_cons_succ]
  have hA : Below wd.heap.size wd (wd.alloc (.cells #[.int .i64 r0, .int .i64 r1] 3)) := ext_alloc (Below.refl _ _)
  have HA := Lib.hid hA
  have HL : Hid (Blk (wd.alloc (.cells #[.int .i64 r0, .int .i64 r1] 3)) wd.heap.size [.int .i64 r0, .int .i64 r1] 3) := Blk.new _ _ _
  refine seqI_do rfl (wp_valA (bs_2i _ _ _ 9 14 r0 r1 rfl rfl rfl) ⟨hA, ?_⟩)
  simp only [Act.put, List.setIfInBounds_toArray, List.set_cons_zero, List.set_cons_succ]
  refine seqI_call _ _ rfl (by go_simp) (or2I_any r0 r1 wd.heap.size _ HL.out.lt (HL.out.cell 0 rfl) (HL.out.cell 1 rfl)) ?_
  rintro e w9 ⟨rfl, hw⟩
  subst hw
  refine ⟨_, rfl, hA, ?_⟩
  simp only [Act.put, List.setIfInBounds_toArray, List.set_cons_zero, List.set_cons_succ]
  refine seqI_take (v := .int .i64 (firstE r0 r1)) rfl (fun W9 hW => by clear hW; go_simp) (fun _ _ _ h => h) ?_
  simp only [Act.put, List.setIfInBounds_toArray, List.set_cons_zero, List.set_cons_succ]
  refine seqI_nil ?_
  have HF := Lib.hid (HGd.out.alloc (.cells #[.int .i64 r0, .int .i64 r1] 3))
  clear hA HA HL HCE HXd HYd HGd
  go_wp2_with fail
  go_ret
  exact ⟨rfl, HF.out⟩
theorem cmpRec_any (x y : Vrec) (W : World) : Calls Tryz.prog 55 #[.agg x.cells.toArray, .agg y.cells.toArray] W (CmpP (recCmp x y) W) :=
  cmpRec_core x.at_ x.ring x.talk x.how y.at_ y.ring y.talk y.how ⟨x.id.toArray⟩ ⟨x.frm.toArray⟩ ⟨x.to_.toArray⟩ ⟨x.car.toArray⟩ ⟨y.id.toArray⟩ ⟨y.frm.toArray⟩ ⟨y.to_.toArray⟩ ⟨y.car.toArray⟩ _ _ W (fun W => Tryz.cmp_Compare _ _ W) (fun W => Tryz.strings_Compare ⟨x.id.toArray⟩ ⟨y.id.toArray⟩ W)
theorem cmpRec_b (x y : Vrec) (W : World) : Calls Tryz.prog 55 #[x.val, y.val] W fun e w' => e = .returned (.int .i64 (recCmp x y)) ∧ Below W.heap.size W w' := (cmpRec_any x y W).mono fun e w' h => ⟨h.1, Grown.below h.2⟩
/-- What RecordOrder answers, for whatever numbers. -/
def recOrd (a b : Vrec) : Int := if a.at_ ≠ b.at_ then sgnI (IntKind.i64.wrap (a.at_ - b.at_)) else Lib.compareBytes a.id b.id
theorem recOrd_neg {a b : Vrec} (ha : RecB a) (hb : RecB b) : recOrd a b < 0 ↔ a.lt b := by
  have a0 := ha.at0
  have a1 := ha.at1
  have b0 := hb.at0
  have b1 := hb.at1
  have w1 : IntKind.i64.wrap (a.at_ - b.at_) = a.at_ - b.at_ := IntWalk.i64_in _ (by omega)
  unfold recOrd Vrec.lt
  rw [w1]
  by_cases h1 : a.at_ = b.at_
  · rw [if_neg (by simpa using h1), cmpS_neg]
    constructor
    · intro h; exact Or.inr ⟨h1, h⟩
    · rintro (h | ⟨_, h⟩)
      · omega
      · exact h
  · rw [if_pos h1, sgnI_neg]
    constructor
    · intro h; left; omega
    · rintro (h | ⟨h, _⟩)
      · omega
      · exact absurd h h1
set_option maxRecDepth 100000 in
set_option maxHeartbeats 8000000 in
theorem recOrd_core (x3 x4 x5 x6 y3 y4 y5 y6 : Int) (x0 x1 x2 x7 y0 y1 y2 y7 : ByteArray) (C : Int) (W : World) (hC : ∀ W, Calls Tryz.prog 81 #[.string x0, .string y0] W fun e w' => e = .returned (.int .i64 C) ∧ w' = W) :
    Calls Tryz.prog 73 #[.agg #[.string x0, .string x1, .string x2, .int .i64 x3, .int .i64 x4, .int .i64 x5, .int .i64 x6, .string x7], .agg #[.string y0, .string y1, .string y2, .int .i64 y3, .int .i64 y4, .int .i64 y5, .int .i64 y6, .string y7]] W (CmpP (if x3 ≠ y3 then sgnI (IntKind.i64.wrap (x3 - y3)) else C) W) := by
  have HCC := Lib.hid hC
  clear hC
  by_cases h0 : x3 = y3
  case neg =>
    have hb0 : (x3 != y3) = true := bne_iff_ne.2 h0
    rw [if_pos h0]
    have HS : Hid (∀ W, Calls Tryz.prog 112 #[.int .i64 (IntKind.i64.wrap (x3 - y3))] W fun e w' => e = .returned (.int .i64 (sgnI (IntKind.i64.wrap (x3 - y3)))) ∧ W = w') := fun W => sign2_any _ W
    obtain ⟨z, hz⟩ : ∃ z, z = IntKind.i64.wrap (x3 - y3) := ⟨_, rfl⟩
    rw [← hz] at HS ⊢
    replace hz := hz.symm
    generalize sgnI z = sz at HS ⊢
    go_enter Tryz.func73, Tryz.ntmps73
    go_upto_region 1 with (fail)
    have HGR : Hid (Grown W ((W.alloc (.cells #[.string x0, .string x1, .string x2, .int .i64 x3, .int .i64 x4, .int .i64 x5, .int .i64 x6, .string x7] 50)).alloc (.cells #[.string y0, .string y1, .string y2, .int .i64 y3, .int .i64 y4, .int .i64 y5, .int .i64 y6, .string y7] 50))) := ((Grown.refl W).alloc _).alloc _
    have HX : Hid (Blk ((W.alloc (.cells #[.string x0, .string x1, .string x2, .int .i64 x3, .int .i64 x4, .int .i64 x5, .int .i64 x6, .string x7] 50)).alloc (.cells #[.string y0, .string y1, .string y2, .int .i64 y3, .int .i64 y4, .int .i64 y5, .int .i64 y6, .string y7] 50)) W.heap.size [.string x0, .string x1, .string x2, .int .i64 x3, .int .i64 x4, .int .i64 x5, .int .i64 x6, .string x7] 50) := (Blk.new W [.string x0, .string x1, .string x2, .int .i64 x3, .int .i64 x4, .int .i64 x5, .int .i64 x6, .string x7] 50).alloc _
    have HY : Hid (Blk ((W.alloc (.cells #[.string x0, .string x1, .string x2, .int .i64 x3, .int .i64 x4, .int .i64 x5, .int .i64 x6, .string x7] 50)).alloc (.cells #[.string y0, .string y1, .string y2, .int .i64 y3, .int .i64 y4, .int .i64 y5, .int .i64 y6, .string y7] 50)) (W.alloc (.cells #[.string x0, .string x1, .string x2, .int .i64 x3, .int .i64 x4, .int .i64 x5, .int .i64 x6, .string x7] 50)).heap.size [.string y0, .string y1, .string y2, .int .i64 y3, .int .i64 y4, .int .i64 y5, .int .i64 y6, .string y7] 50) := Blk.new _ _ _
    have hsz : (W.alloc (.cells #[.string x0, .string x1, .string x2, .int .i64 x3, .int .i64 x4, .int .i64 x5, .int .i64 x6, .string x7] 50)).heap.size = W.heap.size + 1 := by simp
    rw [hsz] at HY
    clear hsz
    generalize ((W.alloc (.cells #[.string x0, .string x1, .string x2, .int .i64 x3, .int .i64 x4, .int .i64 x5, .int .i64 x6, .string x7] 50)).alloc (.cells #[.string y0, .string y1, .string y2, .int .i64 y3, .int .i64 y4, .int .i64 y5, .int .i64 y6, .string y7] 50)) = w1 at HGR HX HY ⊢
    generalize W.heap.size = B at HX HY ⊢
    have p3 := HX.out.cell 3 rfl
    have q3 := HY.out.cell 3 rfl
    go_wp2_with fail
    refine (HS.out _).mono ?_
    rintro e w' ⟨rfl, rfl⟩
    go_wp2_with fail
    go_ret
    exact ⟨rfl, HGR.out⟩
  subst h0
  rw [if_neg (by simp)]
  go_enter Tryz.func73, Tryz.ntmps73
  go_upto_region 1 with (fail)
  have HGR : Hid (Grown W ((W.alloc (.cells #[.string x0, .string x1, .string x2, .int .i64 x3, .int .i64 x4, .int .i64 x5, .int .i64 x6, .string x7] 50)).alloc (.cells #[.string y0, .string y1, .string y2, .int .i64 x3, .int .i64 y4, .int .i64 y5, .int .i64 y6, .string y7] 50))) := ((Grown.refl W).alloc _).alloc _
  have HX : Hid (Blk ((W.alloc (.cells #[.string x0, .string x1, .string x2, .int .i64 x3, .int .i64 x4, .int .i64 x5, .int .i64 x6, .string x7] 50)).alloc (.cells #[.string y0, .string y1, .string y2, .int .i64 x3, .int .i64 y4, .int .i64 y5, .int .i64 y6, .string y7] 50)) W.heap.size [.string x0, .string x1, .string x2, .int .i64 x3, .int .i64 x4, .int .i64 x5, .int .i64 x6, .string x7] 50) := (Blk.new W [.string x0, .string x1, .string x2, .int .i64 x3, .int .i64 x4, .int .i64 x5, .int .i64 x6, .string x7] 50).alloc _
  have HY : Hid (Blk ((W.alloc (.cells #[.string x0, .string x1, .string x2, .int .i64 x3, .int .i64 x4, .int .i64 x5, .int .i64 x6, .string x7] 50)).alloc (.cells #[.string y0, .string y1, .string y2, .int .i64 x3, .int .i64 y4, .int .i64 y5, .int .i64 y6, .string y7] 50)) (W.alloc (.cells #[.string x0, .string x1, .string x2, .int .i64 x3, .int .i64 x4, .int .i64 x5, .int .i64 x6, .string x7] 50)).heap.size [.string y0, .string y1, .string y2, .int .i64 x3, .int .i64 y4, .int .i64 y5, .int .i64 y6, .string y7] 50) := Blk.new _ _ _
  have hsz : (W.alloc (.cells #[.string x0, .string x1, .string x2, .int .i64 x3, .int .i64 x4, .int .i64 x5, .int .i64 x6, .string x7] 50)).heap.size = W.heap.size + 1 := by simp
  rw [hsz] at HY
  clear hsz
  generalize ((W.alloc (.cells #[.string x0, .string x1, .string x2, .int .i64 x3, .int .i64 x4, .int .i64 x5, .int .i64 x6, .string x7] 50)).alloc (.cells #[.string y0, .string y1, .string y2, .int .i64 x3, .int .i64 y4, .int .i64 y5, .int .i64 y6, .string y7] 50)) = w1 at HGR HX HY ⊢
  generalize W.heap.size = B at HX HY ⊢
  have p3 := HX.out.cell 3 rfl
  have q3 := HY.out.cell 3 rfl
  have p0 := HX.out.cell 0 rfl
  have q0 := HY.out.cell 0 rfl
  go_wp2_with fail
  refine (HCC.out _).mono ?_
  rintro e w' ⟨rfl, hw⟩
  replace hw := hw.symm
  subst hw
  go_wp2_with fail
  go_ret
  exact ⟨rfl, HGR.out⟩
theorem recOrd_any (x y : Vrec) (W : World) : Calls Tryz.prog 73 #[.agg x.cells.toArray, .agg y.cells.toArray] W (CmpP (recOrd x y) W) :=
  recOrd_core x.at_ x.ring x.talk x.how y.at_ y.ring y.talk y.how ⟨x.id.toArray⟩ ⟨x.frm.toArray⟩ ⟨x.to_.toArray⟩ ⟨x.car.toArray⟩ ⟨y.id.toArray⟩ ⟨y.frm.toArray⟩ ⟨y.to_.toArray⟩ ⟨y.car.toArray⟩ _ W (fun W => Tryz.strings_Compare ⟨x.id.toArray⟩ ⟨y.id.toArray⟩ W)
theorem recOrd_b (x y : Vrec) (W : World) : Calls Tryz.prog 73 #[x.val, y.val] W fun e w' => e = .returned (.int .i64 (recOrd x y)) ∧ Below W.heap.size W w' := (recOrd_any x y W).mono fun e w' h => ⟨h.1, Grown.below h.2⟩
theorem or7I_any (r0 r1 r2 r3 r4 r5 r6 : Int) (B : Nat) (w : World) (hB : B < w.heap.size) (h0 : w.cell? ⟨B, 0, none⟩ = some (.int .i64 r0)) (h1 : w.cell? ⟨B, 1, none⟩ = some (.int .i64 r1)) (h2 : w.cell? ⟨B, 2, none⟩ = some (.int .i64 r2)) (h3 : w.cell? ⟨B, 3, none⟩ = some (.int .i64 r3)) (h4 : w.cell? ⟨B, 4, none⟩ = some (.int .i64 r4)) (h5 : w.cell? ⟨B, 5, none⟩ = some (.int .i64 r5)) (h6 : w.cell? ⟨B, 6, none⟩ = some (.int .i64 r6)) : Calls Tryz.prog 98 #[.slice (some ⟨B, 0, none⟩) 7 7] w fun e w' => e = .returned (.int .i64 (firstE r0 (firstE r1 (firstE r2 (firstE r3 (firstE r4 (firstE r5 r6))))))) ∧ w = w' := by
  have e : firstL [r0, r1, r2, r3, r4, r5, r6] = (firstE r0 (firstE r1 (firstE r2 (firstE r3 (firstE r4 (firstE r5 r6)))))) := by unfold firstE; simp only [firstL]; repeat' split <;> simp_all
  rw [← e]
  exact orNI_any [r0, r1, r2, r3, r4, r5, r6] B 7 rfl (by omega) w hB (fun i hi => by match i, hi with | 0, _ => exact h0 | 1, _ => exact h1 | 2, _ => exact h2 | 3, _ => exact h3 | 4, _ => exact h4 | 5, _ => exact h5 | 6, _ => exact h6)
theorem bs_7i (e : Operand → Value) (o : Oper) (w : World) (i0 i1 i2 i3 i4 i5 i6 : Nat) (z0 z1 z2 z3 z4 z5 z6 : Int) (ho : o.op = .buildSlice 22 7 #[(0, .tmp i0), (1, .tmp i1), (2, .tmp i2), (3, .tmp i3), (4, .tmp i4), (5, .tmp i5), (6, .tmp i6)]) (h0 : e (.tmp i0) = .int .i64 z0) (h1 : e (.tmp i1) = .int .i64 z1) (h2 : e (.tmp i2) = .int .i64 z2) (h3 : e (.tmp i3) = .int .i64 z3) (h4 : e (.tmp i4) = .int .i64 z4) (h5 : e (.tmp i5) = .int .i64 z5) (h6 : e (.tmp i6) = .int .i64 z6) :
   (execOp e o).run Tryz.prog w = .ok (.value (.slice (some ⟨w.heap.size, 0, none⟩) 7 7)) (w.alloc (.cells #[.int .i64 z0, .int .i64 z1, .int .i64 z2, .int .i64 z3, .int .i64 z4, .int .i64 z5, .int .i64 z6] 3)) := by
  unfold execOp
  rw [ho]
  simp only [List.map_toArray, List.map_cons, List.map_nil, h0, h1, h2, h3, h4, h5, h6]
  kernel_rfl
set_option maxRecDepth 100000 in
set_option maxHeartbeats 8000000 in
theorem recBet_core (x3 x4 x5 x6 y3 y4 y5 y6 : Int) (x0 x1 x2 x7 y0 y1 y2 y7 : ByteArray) (r0 r1 r2 r3 r4 r5 r6 : Int) (W : World) (h0 : ∀ W, Calls Tryz.prog 99 #[.int .i64 y5, .int .i64 x5] W fun e w' => e = .returned (.int .i64 r0) ∧ w' = W) (h1 : ∀ W, Calls Tryz.prog 99 #[.int .i64 y4, .int .i64 x4] W fun e w' => e = .returned (.int .i64 r1) ∧ w' = W) (h2 : ∀ W, Calls Tryz.prog 99 #[.int .i64 x3, .int .i64 y3] W fun e w' => e = .returned (.int .i64 r2) ∧ w' = W) (h3 : ∀ W, Calls Tryz.prog 99 #[.int .i64 x6, .int .i64 y6] W fun e w' => e = .returned (.int .i64 r3) ∧ w' = W) (h4 : ∀ W, Calls Tryz.prog 81 #[.string x1, .string y1] W fun e w' => e = .returned (.int .i64 r4) ∧ w' = W) (h5 : ∀ W, Calls Tryz.prog 81 #[.string x2, .string y2] W fun e w' => e = .returned (.int .i64 r5) ∧ w' = W) (h6 : ∀ W, Calls Tryz.prog 81 #[.string x7, .string y7] W fun e w' => e = .returned (.int .i64 r6) ∧ w' = W) :
    Calls Tryz.prog 53 #[.agg #[.string x0, .string x1, .string x2, .int .i64 x3, .int .i64 x4, .int .i64 x5, .int .i64 x6, .string x7], .agg #[.string y0, .string y1, .string y2, .int .i64 y3, .int .i64 y4, .int .i64 y5, .int .i64 y6, .string y7]] W (BoolP (decide ((firstE r0 (firstE r1 (firstE r2 (firstE r3 (firstE r4 (firstE r5 r6)))))) < 0)) W) := by
  generalize hR : (firstE r0 (firstE r1 (firstE r2 (firstE r3 (firstE r4 (firstE r5 r6)))))) = R
  have HRR := Lib.hid hR
  clear hR
  have H0 := Lib.hid h0
  have H1 := Lib.hid h1
  have H2 := Lib.hid h2
  have H3 := Lib.hid h3
  have H4 := Lib.hid h4
  have H5 := Lib.hid h5
  have H6 := Lib.hid h6
  clear h0 h1 h2 h3 h4 h5 h6
  go_enter Tryz.func53, Tryz.ntmps53
  go_upto_region 1 with (fail)
  have HGR : Hid (Grown W ((W.alloc (.cells #[.string x0, .string x1, .string x2, .int .i64 x3, .int .i64 x4, .int .i64 x5, .int .i64 x6, .string x7] 50)).alloc (.cells #[.string y0, .string y1, .string y2, .int .i64 y3, .int .i64 y4, .int .i64 y5, .int .i64 y6, .string y7] 50))) := ((Grown.refl W).alloc _).alloc _
  have HX : Hid (Blk ((W.alloc (.cells #[.string x0, .string x1, .string x2, .int .i64 x3, .int .i64 x4, .int .i64 x5, .int .i64 x6, .string x7] 50)).alloc (.cells #[.string y0, .string y1, .string y2, .int .i64 y3, .int .i64 y4, .int .i64 y5, .int .i64 y6, .string y7] 50)) W.heap.size [.string x0, .string x1, .string x2, .int .i64 x3, .int .i64 x4, .int .i64 x5, .int .i64 x6, .string x7] 50) := (Blk.new W [.string x0, .string x1, .string x2, .int .i64 x3, .int .i64 x4, .int .i64 x5, .int .i64 x6, .string x7] 50).alloc _
  have HY : Hid (Blk ((W.alloc (.cells #[.string x0, .string x1, .string x2, .int .i64 x3, .int .i64 x4, .int .i64 x5, .int .i64 x6, .string x7] 50)).alloc (.cells #[.string y0, .string y1, .string y2, .int .i64 y3, .int .i64 y4, .int .i64 y5, .int .i64 y6, .string y7] 50)) (W.alloc (.cells #[.string x0, .string x1, .string x2, .int .i64 x3, .int .i64 x4, .int .i64 x5, .int .i64 x6, .string x7] 50)).heap.size [.string y0, .string y1, .string y2, .int .i64 y3, .int .i64 y4, .int .i64 y5, .int .i64 y6, .string y7] 50) := Blk.new _ _ _
  have hsz : (W.alloc (.cells #[.string x0, .string x1, .string x2, .int .i64 x3, .int .i64 x4, .int .i64 x5, .int .i64 x6, .string x7] 50)).heap.size = W.heap.size + 1 := by simp
  rw [hsz] at HY
  clear hsz
  generalize ((W.alloc (.cells #[.string x0, .string x1, .string x2, .int .i64 x3, .int .i64 x4, .int .i64 x5, .int .i64 x6, .string x7] 50)).alloc (.cells #[.string y0, .string y1, .string y2, .int .i64 y3, .int .i64 y4, .int .i64 y5, .int .i64 y6, .string y7] 50)) = w1 at HGR HX HY ⊢
  generalize W.heap.size = B at HX HY ⊢
  have hd : Below w1.heap.size w1 w1.drew := ext_drew (Below.refl _ _)
  have HXd := Lib.hid (HX.out.below hd)
  have HYd := Lib.hid (HY.out.below hd)
  have HGd := Lib.hid HGR.out.drew
  clear hd HX HY HGR
  have HCE : Hid (∀ W9, Below w1.drew.heap.size w1.drew W9 → (W9.cell? ⟨B, 0, none⟩ = some (.string x0) ∧ W9.cell? ⟨B, 1, none⟩ = some (.string x1) ∧ W9.cell? ⟨B, 2, none⟩ = some (.string x2) ∧ W9.cell? ⟨B, 3, none⟩ = some (.int .i64 x3) ∧ W9.cell? ⟨B, 4, none⟩ = some (.int .i64 x4) ∧ W9.cell? ⟨B, 5, none⟩ = some (.int .i64 x5) ∧ W9.cell? ⟨B, 6, none⟩ = some (.int .i64 x6) ∧ W9.cell? ⟨B, 7, none⟩ = some (.string x7)) ∧ (W9.cell? ⟨B + 1, 0, none⟩ = some (.string y0) ∧ W9.cell? ⟨B + 1, 1, none⟩ = some (.string y1) ∧ W9.cell? ⟨B + 1, 2, none⟩ = some (.string y2) ∧ W9.cell? ⟨B + 1, 3, none⟩ = some (.int .i64 y3) ∧ W9.cell? ⟨B + 1, 4, none⟩ = some (.int .i64 y4) ∧ W9.cell? ⟨B + 1, 5, none⟩ = some (.int .i64 y5) ∧ W9.cell? ⟨B + 1, 6, none⟩ = some (.int .i64 y6) ∧ W9.cell? ⟨B + 1, 7, none⟩ = some (.string y7))) := fun W9 hW => ⟨⟨(HXd.out.below hW).cell 0 rfl, (HXd.out.below hW).cell 1 rfl, (HXd.out.below hW).cell 2 rfl, (HXd.out.below hW).cell 3 rfl, (HXd.out.below hW).cell 4 rfl, (HXd.out.below hW).cell 5 rfl, (HXd.out.below hW).cell 6 rfl, (HXd.out.below hW).cell 7 rfl⟩, ⟨(HYd.out.below hW).cell 0 rfl, (HYd.out.below hW).cell 1 rfl, (HYd.out.below hW).cell 2 rfl, (HYd.out.below hW).cell 3 rfl, (HYd.out.below hW).cell 4 rfl, (HYd.out.below hW).cell 5 rfl, (HYd.out.below hW).cell 6 rfl, (HYd.out.below hW).cell 7 rfl⟩⟩
  refine region_seqI (S := fun W9 => Below w1.drew.heap.size w1.drew W9) [(true, 0), (true, 1), (true, 2), (true, 3), (true, 5), (true, 6), (true, 7), (true, 8), (true, 10), (true, 11), (true, 12), (true, 13), (true, 15), (true, 16), (true, 17), (true, 18), (true, 20), (true, 21), (true, 22), (true, 23), (true, 25), (true, 26), (true, 27), (true, 28), (true, 30), (true, 31), (true, 32), (true, 33), (false, 4), (false, 9), (false, 14), (false, 19), (false, 24), (false, 29), (false, 34), (false, 35), (false, 36), (true, 37), (true, 38)] (by kernel_rfl) (by kernel_rfl) rfl (by kernel_rfl) (Below.refl _ _) ?_
  generalize w1.drew = wd at HCE HXd HYd HGd ⊢
  simp only [seqOps, List.getD_cons_zero, List.getD_cons_succ]
  refine seqI_take (v := .pointer (some ⟨B + 1, 5, none⟩)) rfl (fun W9 hW => by clear hW; go_simp) (fun _ _ _ h => h) ?_
  simp only [Act.put, List.setIfInBounds_toArray, List.set_cons_zero, List.set_cons_succ]
  refine seqI_take (v := .int .i64 y5) rfl (fun W9 hW => by obtain ⟨⟨p0, p1, p2, p3, p4, p5, p6, p7⟩, ⟨q0, q1, q2, q3, q4, q5, q6, q7⟩⟩ := HCE.out W9 hW; clear hW; go_simp) (fun _ _ _ h => h) ?_
  simp only [Act.put, List.setIfInBounds_toArray, List.set_cons_zero, List.set_cons_succ]
  refine seqI_take (v := .pointer (some ⟨B, 5, none⟩)) rfl (fun W9 hW => by clear hW; go_simp) (fun _ _ _ h => h) ?_
  simp only [Act.put, List.setIfInBounds_toArray, List.set_cons_zero, List.set_cons_succ]
  refine seqI_take (v := .int .i64 x5) rfl (fun W9 hW => by obtain ⟨⟨p0, p1, p2, p3, p4, p5, p6, p7⟩, ⟨q0, q1, q2, q3, q4, q5, q6, q7⟩⟩ := HCE.out W9 hW; clear hW; go_simp) (fun _ _ _ h => h) ?_
  simp only [Act.put, List.setIfInBounds_toArray, List.set_cons_zero, List.set_cons_succ]
  refine seqI_take (v := .pointer (some ⟨B + 1, 4, none⟩)) rfl (fun W9 hW => by clear hW; go_simp) (fun _ _ _ h => h) ?_
  simp only [Act.put, List.setIfInBounds_toArray, List.set_cons_zero, List.set_cons_succ]
  refine seqI_take (v := .int .i64 y4) rfl (fun W9 hW => by obtain ⟨⟨p0, p1, p2, p3, p4, p5, p6, p7⟩, ⟨q0, q1, q2, q3, q4, q5, q6, q7⟩⟩ := HCE.out W9 hW; clear hW; go_simp) (fun _ _ _ h => h) ?_
  simp only [Act.put, List.setIfInBounds_toArray, List.set_cons_zero, List.set_cons_succ]
  refine seqI_take (v := .pointer (some ⟨B, 4, none⟩)) rfl (fun W9 hW => by clear hW; go_simp) (fun _ _ _ h => h) ?_
  simp only [Act.put, List.setIfInBounds_toArray, List.set_cons_zero, List.set_cons_succ]
  refine seqI_take (v := .int .i64 x4) rfl (fun W9 hW => by obtain ⟨⟨p0, p1, p2, p3, p4, p5, p6, p7⟩, ⟨q0, q1, q2, q3, q4, q5, q6, q7⟩⟩ := HCE.out W9 hW; clear hW; go_simp) (fun _ _ _ h => h) ?_
  simp only [Act.put, List.setIfInBounds_toArray, List.set_cons_zero, List.set_cons_succ]
  refine seqI_take (v := .pointer (some ⟨B, 3, none⟩)) rfl (fun W9 hW => by clear hW; go_simp) (fun _ _ _ h => h) ?_
  simp only [Act.put, List.setIfInBounds_toArray, List.set_cons_zero, List.set_cons_succ]
  refine seqI_take (v := .int .i64 x3) rfl (fun W9 hW => by obtain ⟨⟨p0, p1, p2, p3, p4, p5, p6, p7⟩, ⟨q0, q1, q2, q3, q4, q5, q6, q7⟩⟩ := HCE.out W9 hW; clear hW; go_simp) (fun _ _ _ h => h) ?_
  simp only [Act.put, List.setIfInBounds_toArray, List.set_cons_zero, List.set_cons_succ]
  refine seqI_take (v := .pointer (some ⟨B + 1, 3, none⟩)) rfl (fun W9 hW => by clear hW; go_simp) (fun _ _ _ h => h) ?_
  simp only [Act.put, List.setIfInBounds_toArray, List.set_cons_zero, List.set_cons_succ]
  refine seqI_take (v := .int .i64 y3) rfl (fun W9 hW => by obtain ⟨⟨p0, p1, p2, p3, p4, p5, p6, p7⟩, ⟨q0, q1, q2, q3, q4, q5, q6, q7⟩⟩ := HCE.out W9 hW; clear hW; go_simp) (fun _ _ _ h => h) ?_
  simp only [Act.put, List.setIfInBounds_toArray, List.set_cons_zero, List.set_cons_succ]
  refine seqI_take (v := .pointer (some ⟨B, 6, none⟩)) rfl (fun W9 hW => by clear hW; go_simp) (fun _ _ _ h => h) ?_
  simp only [Act.put, List.setIfInBounds_toArray, List.set_cons_zero, List.set_cons_succ]
  refine seqI_take (v := .int .i64 x6) rfl (fun W9 hW => by obtain ⟨⟨p0, p1, p2, p3, p4, p5, p6, p7⟩, ⟨q0, q1, q2, q3, q4, q5, q6, q7⟩⟩ := HCE.out W9 hW; clear hW; go_simp) (fun _ _ _ h => h) ?_
  simp only [Act.put, List.setIfInBounds_toArray, List.set_cons_zero, List.set_cons_succ]
  refine seqI_take (v := .pointer (some ⟨B + 1, 6, none⟩)) rfl (fun W9 hW => by clear hW; go_simp) (fun _ _ _ h => h) ?_
  simp only [Act.put, List.setIfInBounds_toArray, List.set_cons_zero, List.set_cons_succ]
  refine seqI_take (v := .int .i64 y6) rfl (fun W9 hW => by obtain ⟨⟨p0, p1, p2, p3, p4, p5, p6, p7⟩, ⟨q0, q1, q2, q3, q4, q5, q6, q7⟩⟩ := HCE.out W9 hW; clear hW; go_simp) (fun _ _ _ h => h) ?_
  simp only [Act.put, List.setIfInBounds_toArray, List.set_cons_zero, List.set_cons_succ]
  refine seqI_take (v := .pointer (some ⟨B, 1, none⟩)) rfl (fun W9 hW => by clear hW; go_simp) (fun _ _ _ h => h) ?_
  simp only [Act.put, List.setIfInBounds_toArray, List.set_cons_zero, List.set_cons_succ]
  refine seqI_take (v := .string x1) rfl (fun W9 hW => by obtain ⟨⟨p0, p1, p2, p3, p4, p5, p6, p7⟩, ⟨q0, q1, q2, q3, q4, q5, q6, q7⟩⟩ := HCE.out W9 hW; clear hW; go_simp) (fun _ _ _ h => h) ?_
  simp only [Act.put, List.setIfInBounds_toArray, List.set_cons_zero, List.set_cons_succ]
  refine seqI_take (v := .pointer (some ⟨B + 1, 1, none⟩)) rfl (fun W9 hW => by clear hW; go_simp) (fun _ _ _ h => h) ?_
  simp only [Act.put, List.setIfInBounds_toArray, List.set_cons_zero, List.set_cons_succ]
  refine seqI_take (v := .string y1) rfl (fun W9 hW => by obtain ⟨⟨p0, p1, p2, p3, p4, p5, p6, p7⟩, ⟨q0, q1, q2, q3, q4, q5, q6, q7⟩⟩ := HCE.out W9 hW; clear hW; go_simp) (fun _ _ _ h => h) ?_
  simp only [Act.put, List.setIfInBounds_toArray, List.set_cons_zero, List.set_cons_succ]
  refine seqI_take (v := .pointer (some ⟨B, 2, none⟩)) rfl (fun W9 hW => by clear hW; go_simp) (fun _ _ _ h => h) ?_
  simp only [Act.put, List.setIfInBounds_toArray, List.set_cons_zero, List.set_cons_succ]
  refine seqI_take (v := .string x2) rfl (fun W9 hW => by obtain ⟨⟨p0, p1, p2, p3, p4, p5, p6, p7⟩, ⟨q0, q1, q2, q3, q4, q5, q6, q7⟩⟩ := HCE.out W9 hW; clear hW; go_simp) (fun _ _ _ h => h) ?_
  simp only [Act.put, List.setIfInBounds_toArray, List.set_cons_zero, List.set_cons_succ]
  refine seqI_take (v := .pointer (some ⟨B + 1, 2, none⟩)) rfl (fun W9 hW => by clear hW; go_simp) (fun _ _ _ h => h) ?_
  simp only [Act.put, List.setIfInBounds_toArray, List.set_cons_zero, List.set_cons_succ]
  refine seqI_take (v := .string y2) rfl (fun W9 hW => by obtain ⟨⟨p0, p1, p2, p3, p4, p5, p6, p7⟩, ⟨q0, q1, q2, q3, q4, q5, q6, q7⟩⟩ := HCE.out W9 hW; clear hW; go_simp) (fun _ _ _ h => h) ?_
  simp only [Act.put, List.setIfInBounds_toArray, List.set_cons_zero, List.set_cons_succ]
  refine seqI_take (v := .pointer (some ⟨B, 7, none⟩)) rfl (fun W9 hW => by clear hW; go_simp) (fun _ _ _ h => h) ?_
  simp only [Act.put, List.setIfInBounds_toArray, List.set_cons_zero, List.set_cons_succ]
  refine seqI_take (v := .string x7) rfl (fun W9 hW => by obtain ⟨⟨p0, p1, p2, p3, p4, p5, p6, p7⟩, ⟨q0, q1, q2, q3, q4, q5, q6, q7⟩⟩ := HCE.out W9 hW; clear hW; go_simp) (fun _ _ _ h => h) ?_
  simp only [Act.put, List.setIfInBounds_toArray, List.set_cons_zero, List.set_cons_succ]
  refine seqI_take (v := .pointer (some ⟨B + 1, 7, none⟩)) rfl (fun W9 hW => by clear hW; go_simp) (fun _ _ _ h => h) ?_
  simp only [Act.put, List.setIfInBounds_toArray, List.set_cons_zero, List.set_cons_succ]
  refine seqI_take (v := .string y7) rfl (fun W9 hW => by obtain ⟨⟨p0, p1, p2, p3, p4, p5, p6, p7⟩, ⟨q0, q1, q2, q3, q4, q5, q6, q7⟩⟩ := HCE.out W9 hW; clear hW; go_simp) (fun _ _ _ h => h) ?_
  simp only [Act.put, List.setIfInBounds_toArray, List.set_cons_zero, List.set_cons_succ]
  refine seqI_call _ _ rfl (by go_simp) (H0.out _) ?_
  rintro e w9 ⟨rfl, hw⟩
  replace hw := hw.symm
  subst hw
  refine ⟨_, rfl, Below.refl _ _, ?_⟩
  simp only [Act.put, List.setIfInBounds_toArray, List.set_cons_zero, List.set_cons_succ]
  refine seqI_call _ _ rfl (by go_simp) (H1.out _) ?_
  rintro e w9 ⟨rfl, hw⟩
  replace hw := hw.symm
  subst hw
  refine ⟨_, rfl, Below.refl _ _, ?_⟩
  simp only [Act.put, List.setIfInBounds_toArray, List.set_cons_zero, List.set_cons_succ]
  refine seqI_call _ _ rfl (by go_simp) (H2.out _) ?_
  rintro e w9 ⟨rfl, hw⟩
  replace hw := hw.symm
  subst hw
  refine ⟨_, rfl, Below.refl _ _, ?_⟩
  simp only [Act.put, List.setIfInBounds_toArray, List.set_cons_zero, List.set_cons_succ]
  refine seqI_call _ _ rfl (by go_simp) (H3.out _) ?_
  rintro e w9 ⟨rfl, hw⟩
  replace hw := hw.symm
  subst hw
  refine ⟨_, rfl, Below.refl _ _, ?_⟩
  simp only [Act.put, List.setIfInBounds_toArray, List.set_cons_zero, List.set_cons_succ]
  refine seqI_call _ _ rfl (by go_simp) (H4.out _) ?_
  rintro e w9 ⟨rfl, hw⟩
  replace hw := hw.symm
  subst hw
  refine ⟨_, rfl, Below.refl _ _, ?_⟩
  simp only [Act.put, List.setIfInBounds_toArray, List.set_cons_zero, List.set_cons_succ]
  refine seqI_call _ _ rfl (by go_simp) (H5.out _) ?_
  rintro e w9 ⟨rfl, hw⟩
  replace hw := hw.symm
  subst hw
  refine ⟨_, rfl, Below.refl _ _, ?_⟩
  simp only [Act.put, List.setIfInBounds_toArray, List.set_cons_zero, List.set_cons_succ]
  refine seqI_call _ _ rfl (by go_simp) (H6.out _) ?_
  rintro e w9 ⟨rfl, hw⟩
  replace hw := hw.symm
  subst hw
  refine ⟨_, rfl, Below.refl _ _, ?_⟩
  simp only [Act.put, List.setIfInBounds_toArray, List.set_cons_zero, List.set_cons_succ]
  have hA : Below wd.heap.size wd (wd.alloc (.cells #[.int .i64 r0, .int .i64 r1, .int .i64 r2, .int .i64 r3, .int .i64 r4, .int .i64 r5, .int .i64 r6] 3)) := ext_alloc (Below.refl _ _)
  have HA := Lib.hid hA
  have HL : Hid (Blk (wd.alloc (.cells #[.int .i64 r0, .int .i64 r1, .int .i64 r2, .int .i64 r3, .int .i64 r4, .int .i64 r5, .int .i64 r6] 3)) wd.heap.size [.int .i64 r0, .int .i64 r1, .int .i64 r2, .int .i64 r3, .int .i64 r4, .int .i64 r5, .int .i64 r6] 3) := Blk.new _ _ _
  refine seqI_do rfl (wp_valA (bs_7i _ _ _ 9 14 19 24 29 34 39 r0 r1 r2 r3 r4 r5 r6 rfl rfl rfl rfl rfl rfl rfl rfl) ⟨hA, ?_⟩)
  simp only [Act.put, List.setIfInBounds_toArray, List.set_cons_zero, List.set_cons_succ]
  refine seqI_call _ _ rfl (by go_simp) (or7I_any r0 r1 r2 r3 r4 r5 r6 wd.heap.size _ HL.out.lt (HL.out.cell 0 rfl) (HL.out.cell 1 rfl) (HL.out.cell 2 rfl) (HL.out.cell 3 rfl) (HL.out.cell 4 rfl) (HL.out.cell 5 rfl) (HL.out.cell 6 rfl)) ?_
  rintro e w9 ⟨rfl, hw⟩
  subst hw
  refine ⟨_, rfl, hA, ?_⟩
  rw [HRR.out]
  simp only [Act.put, List.setIfInBounds_toArray, List.set_cons_zero, List.set_cons_succ]
  refine seqI_take (v := .bool (decide (R < 0))) rfl (fun W9 hW => by clear hW; go_simp) (fun _ _ _ h => h) ?_
  simp only [Act.put, List.setIfInBounds_toArray, List.set_cons_zero, List.set_cons_succ]
  refine seqI_take (v := .bool (decide (R < 0))) rfl (fun W9 hW => by clear hW; go_simp) (fun _ _ _ h => h) ?_
  simp only [Act.put, List.setIfInBounds_toArray, List.set_cons_zero, List.set_cons_succ]
  refine seqI_nil ?_
  have HF : Hid (Below W.heap.size W _) := Grown.below (HGd.out.alloc (.cells #[.int .i64 r0, .int .i64 r1, .int .i64 r2, .int .i64 r3, .int .i64 r4, .int .i64 r5, .int .i64 r6] 3))
  clear hA HA HL HCE HXd HYd HGd
  go_wp2_with fail
  go_ret
  exact ⟨rfl, HF.out⟩
theorem recBet_any (x y : Vrec) (W : World) : Calls Tryz.prog 53 #[x.val, y.val] W (BoolP (decide (recBet x y < 0)) W) :=
  recBet_core x.at_ x.ring x.talk x.how y.at_ y.ring y.talk y.how ⟨x.id.toArray⟩ ⟨x.frm.toArray⟩ ⟨x.to_.toArray⟩ ⟨x.car.toArray⟩ ⟨y.id.toArray⟩ ⟨y.frm.toArray⟩ ⟨y.to_.toArray⟩ ⟨y.car.toArray⟩ _ _ _ _ _ _ _ W (fun W => Tryz.cmp_Compare _ _ W) (fun W => Tryz.cmp_Compare _ _ W) (fun W => Tryz.cmp_Compare _ _ W) (fun W => Tryz.cmp_Compare _ _ W) (fun W => Tryz.strings_Compare ⟨x.frm.toArray⟩ ⟨y.frm.toArray⟩ W) (fun W => Tryz.strings_Compare ⟨x.to_.toArray⟩ ⟨y.to_.toArray⟩ W) (fun W => Tryz.strings_Compare ⟨x.car.toArray⟩ ⟨y.car.toArray⟩ W)
end Go.Proofs.YtleagenhnchjdaaGreatDoor

set_option linter.unusedVariables false
set_option linter.unusedSimpArgs false
namespace Go.Proofs.YtleagenhnchjdaaGreatDoor
open Go.RowKit Go.Sort Go.Lib

theorem carsB_len : ∀ s ∈ carsB, s.length ≤ 10 := by decide
theorem gb_lowR {S g : Nat} {w w' : World} (hg : w.grownBy w' (some g)) (hS : S ≤ w.heap.size) (h : S ≤ g) : Below S w w' := ⟨hg.os, hg.tape, hg.output, hg.size, fun j hj => hg.block j (by omega) (fun e => by injection e with e; omega)⟩
theorem wp_lookR (w : World) {o : Oper} {a : Act} {K : Act → World → Prop} {Q : Exit → Act → World → Prop} (m x : Operand) (hop : o.op = Op.lookup 133 m x false) (b : Nat) (hm : a.eval m = .map (some b)) (s : ByteArray) (hx : a.eval x = .string s) (v : Value) (hrun : (Instr.lookup 133 (.map (some b)) (.string s) false).run Tryz.prog w = .ok v w) (hK : K (a.put o.dst v) w) : o.wp Tryz.prog a w K Q := by
  unfold Oper.wp
  simp only [execOp, hop, hm, hx, Sem.run_bind, hrun, Result.andThen_ok, Sem.run_pure]
  exact hK
end Go.Proofs.YtleagenhnchjdaaGreatDoor

set_option linter.unusedVariables false
set_option linter.unusedSimpArgs false
namespace Go.Proofs.YtleagenhnchjdaaGreatDoor
open Go.RowKit Go.Sort Go.Lib

theorem rget {l : List Vrec} {i : Nat} (h : i < l.length) : l.getD i default = l[i] := by rw [List.getD_eq_getElem?_getD, List.getElem?_eq_getElem h]; rfl
theorem rget_mem {l : List Vrec} {i : Nat} (h : i < l.length) : l.getD i default ∈ l := by rw [rget h]; exact List.getElem_mem h
theorem rtake_succ (l : List Vrec) {j : Nat} (h : j < l.length) : l.take (j + 1) = l.take j ++ [l.getD j default] := by
  rw [List.take_add_one, List.getElem?_eq_getElem h, rget h]; rfl
/-- The place of an Id. -/
def idAt (a : List Vrec) (k : List UInt8) : Option Nat := a.findIdx? fun x => decide (x.id = k)
theorem idAt_none {a : List Vrec} {k : List UInt8} (h : idAt a k = none) : ∀ s ∈ a, s.id ≠ k := fun s hs e => by
  unfold idAt at h
  rw [List.findIdx?_eq_none_iff] at h
  have := h s hs
  simp [e] at this
theorem idAt_some {a : List Vrec} {k : List UInt8} {i : Nat} (h : idAt a k = some i) : i < a.length ∧ (a.getD i default).id = k := by
  unfold idAt at h
  rw [List.findIdx?_eq_some_iff_getElem] at h
  obtain ⟨hi, hp, _⟩ := h
  exact ⟨hi, by rw [rget hi]; simpa using hp⟩
theorem idAt_of {a : List Vrec} (ha : a.Pairwise fun x y => x.id ≠ y.id) {i : Nat} (hi : i < a.length) : idAt a (a.getD i default).id = some i := by
  cases h : idAt a (a.getD i default).id with
  | none => exact absurd rfl (idAt_none h _ (rget_mem hi))
  | some j =>
    obtain ⟨hj, he⟩ := idAt_some h
    rw [rget hi, rget hj] at he
    rcases Nat.lt_trichotomy i j with q | q | q
    · exact absurd he.symm (List.pairwise_iff_getElem.1 ha i j hi hj q)
    · rw [q]
    · exact absurd he (List.pairwise_iff_getElem.1 ha j i hj hi q)
/-- One more record of the second list. -/
def mrgStep (a : List Vrec) (o : List Vrec × List (List UInt8)) (r : Vrec) : List Vrec × List (List UInt8) :=
  match idAt a r.id with
  | none => (o.1 ++ [r], o.2)
  | some i => if o.1.getD i default = r then o else (if recBet r (o.1.getD i default) < 0 then o.1.set i r else o.1, o.2 ++ [r.id])
def mrgN (a b : List Vrec) : Nat → List Vrec × List (List UInt8)
  | 0 => (a, [])
  | j + 1 => mrgStep a (mrgN a b j) (b.getD j default)
structure MInv (a b : List Vrec) (j : Nat) (o : List Vrec × List (List UInt8)) : Prop where
  rep : Rep o.1 (a ++ b.take j)
  lo : a.length ≤ o.1.length
  hi : o.1.length ≤ a.length + j
  same : ∀ i, i < a.length → (o.1.getD i default).id = (a.getD i default).id
  kept : ∀ i, i < a.length → (∀ r ∈ b.take j, r.id ≠ (a.getD i default).id) → o.1.getD i default = a.getD i default
  differ : ∀ d, d ∈ o.2 ↔ ∃ r ∈ b.take j, ∃ s ∈ a, s.id = r.id ∧ s ≠ r ∧ r.id = d
  once : o.2.Nodup
  few : o.2.length ≤ j
theorem MInv.start {a : List Vrec} (b : List Vrec) (ha : a.Pairwise fun x y => x.id ≠ y.id) : MInv a b 0 (a, []) :=
  ⟨by simpa using Rep.start ha, Nat.le_refl _, Nat.le_refl _, fun _ _ => rfl, fun _ _ _ => rfl, fun d => (by simp), List.nodup_nil, Nat.le_refl _⟩
theorem MInv.step {a b : List Vrec} {j : Nat} {o : List Vrec × List (List UInt8)} (h : MInv a b j o) (ha : a.Pairwise fun x y => x.id ≠ y.id) (hb : b.Pairwise fun x y => x.id ≠ y.id) (hj : j < b.length) : MInv a b (j + 1) (mrgStep a o (b.getD j default)) := by
  have htk := rtake_succ b hj
  have hfr : ∀ r ∈ b.take j, r.id ≠ (b.getD j default).id := fun r hr e => by
    obtain ⟨i, hi, rfl⟩ := List.getElem_of_mem hr
    rw [List.length_take] at hi
    rw [List.getElem_take, rget hj] at e
    exact List.pairwise_iff_getElem.1 hb i j (by omega) hj (by omega) e
  generalize b.getD j default = r at htk hfr ⊢
  have happ : a ++ b.take (j + 1) = (a ++ b.take j) ++ [r] := by rw [htk, List.append_assoc]
  cases hk : idAt a r.id with
  | none =>
    have hna := idAt_none hk
    have e : mrgStep a o r = (o.1 ++ [r], o.2) := by unfold mrgStep; rw [hk]
    rw [e]
    refine ⟨?_, ?_, ?_, fun i hi => ?_, fun i hi hn => ?_, fun d => ?_, h.once, Nat.le_succ_of_le h.few⟩
    · rw [happ]
      refine h.rep.new (fun s hs e => ?_)
      have := ((h.rep.mem s).1 hs).1
      rcases List.mem_append.1 this with q | q
      · exact hna s q e
      · exact hfr s q e
    · rw [List.length_append]; exact Nat.le_trans h.lo (Nat.le_add_right _ _)
    · rw [List.length_append, List.length_singleton]; have := h.hi; omega
    · have := h.lo
      show ((o.1 ++ [r]).getD i default).id = _
      rw [List.getD_eq_getElem?_getD, List.getElem?_append_left (by omega), ← List.getD_eq_getElem?_getD]
      exact h.same i hi
    · have := h.lo
      show (o.1 ++ [r]).getD i default = _
      rw [List.getD_eq_getElem?_getD, List.getElem?_append_left (by omega), ← List.getD_eq_getElem?_getD]
      exact h.kept i hi (fun s hs => hn s (by rw [htk]; exact List.mem_append_left _ hs))
    · rw [h.differ, htk]
      constructor
      · rintro ⟨s, hs, q⟩; exact ⟨s, List.mem_append_left _ hs, q⟩
      · rintro ⟨s, hs, t, ht, q1, q2⟩
        rcases List.mem_append.1 hs with hs | hs
        · exact ⟨s, hs, t, ht, q1, q2⟩
        · rw [List.mem_singleton.1 hs] at q1
          exact absurd q1 (hna t ht)
  | some i =>
    obtain ⟨hia, hid⟩ := idAt_some hk
    have hil : i < o.1.length := Nat.lt_of_lt_of_le hia h.lo
    have hoi : (o.1.getD i default).id = r.id := (h.same i hia).trans hid
    have hkept : o.1.getD i default = a.getD i default := h.kept i hia (fun s hs => by rw [hid]; exact hfr s hs)
    have hdn : r.id ∉ o.2 := fun q => by
      obtain ⟨s, hs, _, _, _, _, q2⟩ := (h.differ _).1 q
      exact hfr s hs q2
    by_cases hr : o.1.getD i default = r
    · have e : mrgStep a o r = o := by unfold mrgStep; rw [hk]; simp only; rw [if_pos hr]
      rw [e]
      refine ⟨?_, h.lo, Nat.le_succ_of_le h.hi, h.same, fun q hq hn => h.kept q hq (fun s hs => hn s (by rw [htk]; exact List.mem_append_left _ hs)), fun d => ?_, h.once, Nat.le_succ_of_le h.few⟩
      · rw [happ]
        exact h.rep.old (rget_mem hil) hoi (by rw [hr]; exact bet_irrefl _)
      · rw [h.differ, htk]
        constructor
        · rintro ⟨s, hs, q⟩; exact ⟨s, List.mem_append_left _ hs, q⟩
        · rintro ⟨s, hs, t, ht, q1, q2, q3⟩
          rcases List.mem_append.1 hs with hs | hs
          · exact ⟨s, hs, t, ht, q1, q2, q3⟩
          · rw [List.mem_singleton.1 hs] at q1 q2
            exfalso
            refine q2 ?_
            rw [← hr, hkept]
            exact RecAsc.same_id ha ht (rget_mem hia) (q1.trans hid.symm)
    · have e : mrgStep a o r = (if recBet r (o.1.getD i default) < 0 then o.1.set i r else o.1, o.2 ++ [r.id]) := by unfold mrgStep; rw [hk]; simp only; rw [if_neg hr]
      rw [e]
      clear e
      have hX : ∀ q, q ≠ i → (if recBet r (o.1.getD i default) < 0 then o.1.set i r else o.1).getD q default = o.1.getD q default := fun q hq => by
        split
        · rw [List.getD_eq_getElem?_getD, List.getD_eq_getElem?_getD, List.getElem?_set]
          rw [if_neg (fun e => hq e.symm)]
        · rfl
      have hXi : ((if recBet r (o.1.getD i default) < 0 then o.1.set i r else o.1).getD i default).id = r.id := by
        split
        · rw [List.getD_eq_getElem?_getD, List.getElem?_set]
          simp [hil]
        · exact hoi
      have hXl : (if recBet r (o.1.getD i default) < 0 then o.1.set i r else o.1).length = o.1.length := by
        split
        · exact List.length_set
        · rfl
      refine ⟨?_, ?_, ?_, fun q hq => ?_, fun q hq hn => ?_, fun d => ?_, ?_, ?_⟩
      · rw [happ]
        show Rep (if recBet r (o.1.getD i default) < 0 then o.1.set i r else o.1) _
        by_cases hb2 : recBet r (o.1.getD i default) < 0
        · rw [if_pos hb2]
          exact h.rep.put hil hoi hb2
        · rw [if_neg hb2]
          exact h.rep.old (rget_mem hil) hoi hb2
      · show a.length ≤ (if recBet r (o.1.getD i default) < 0 then o.1.set i r else o.1).length
        rw [hXl]; exact h.lo
      · show (if recBet r (o.1.getD i default) < 0 then o.1.set i r else o.1).length ≤ _
        rw [hXl]; exact Nat.le_succ_of_le h.hi
      · show ((if recBet r (o.1.getD i default) < 0 then o.1.set i r else o.1).getD q default).id = _
        by_cases hqi : q = i
        · subst hqi; rw [hXi]; exact hid.symm
        · rw [hX q hqi]; exact h.same q hq
      · show (if recBet r (o.1.getD i default) < 0 then o.1.set i r else o.1).getD q default = _
        have hqi : q ≠ i := fun e => by
          subst e
          exact hn r (by rw [htk]; exact List.mem_append_right _ (List.mem_singleton.2 rfl)) hid.symm
        rw [hX q hqi]
        exact h.kept q hq (fun s hs => hn s (by rw [htk]; exact List.mem_append_left _ hs))
      · show d ∈ o.2 ++ [r.id] ↔ _
        rw [List.mem_append, h.differ, htk, List.mem_singleton]
        constructor
        · rintro (⟨s, hs, q⟩ | rfl)
          · exact ⟨s, List.mem_append_left _ hs, q⟩
          · exact ⟨r, List.mem_append_right _ (List.mem_singleton.2 rfl), a.getD i default, rget_mem hia, hid, fun e => hr (hkept.trans e), rfl⟩
        · rintro ⟨s, hs, t, ht, q1, q2, q3⟩
          rcases List.mem_append.1 hs with hs | hs
          · exact Or.inl ⟨s, hs, t, ht, q1, q2, q3⟩
          · rw [List.mem_singleton.1 hs] at q3
            exact Or.inr q3.symm
      · show (o.2 ++ [r.id]).Nodup
        rw [List.nodup_append]
        exact ⟨h.once, List.nodup_cons.2 ⟨List.not_mem_nil, List.nodup_nil⟩, fun x hx y hy e => by rw [List.mem_singleton.1 hy] at e; exact hdn (e ▸ hx)⟩
      · show (o.2 ++ [r.id]).length ≤ _
        rw [List.length_append, List.length_singleton]; have := h.few; omega
theorem mrgN_inv {a b : List Vrec} (ha : a.Pairwise fun x y => x.id ≠ y.id) (hb : b.Pairwise fun x y => x.id ≠ y.id) : ∀ j, j ≤ b.length → MInv a b j (mrgN a b j)
  | 0, _ => MInv.start b ha
  | j + 1, h => (mrgN_inv ha hb j (by omega)).step ha hb (by omega)
/-- What Merge answers: the records that count, in strict order, and the Ids that differ, in order. -/
structure MrgD (a b x : List Vrec) (d : List (List UInt8)) : Prop where
  asc : RecAsc x
  top : ∀ r, r ∈ x ↔ Top (a ++ b) r
  len : x.length ≤ a.length + b.length
  ids : d.Pairwise (· < ·)
  differ : ∀ k, k ∈ d ↔ ∃ r ∈ b, ∃ s ∈ a, s.id = r.id ∧ s ≠ r ∧ r.id = k
theorem sort_strict {d : List (List UInt8)} (hn : d.Nodup) : (d.mergeSort leB).Pairwise (· < ·) := by
  have tr : ∀ a b c : List UInt8, leB a b = true → leB b c = true → leB a c = true := fun a b c h1 h2 => by simp only [leB, decide_eq_true_eq] at *; exact List.le_trans h1 h2
  have tot : ∀ a b : List UInt8, (leB a b || leB b a) = true := fun a b => by simp only [leB, Bool.or_eq_true, decide_eq_true_eq]; exact List.le_total a b
  have h1 := List.pairwise_mergeSort tr tot d
  have h2 : (d.mergeSort leB).Nodup := (List.mergeSort_perm d leB).symm.nodup hn
  refine (h1.and h2).imp (fun {x y} ⟨q1, q2⟩ => ?_)
  simp only [leB, decide_eq_true_eq] at q1
  exact Decidable.byContradiction fun hlt => q2 (List.le_antisymm q1 (List.not_lt.1 hlt))
theorem MrgD.make {a b x : List Vrec} (ha : a.Pairwise fun x y => x.id ≠ y.id) (hb : b.Pairwise fun x y => x.id ≠ y.id) (hp : x.Perm (mrgN a b b.length).1) (hs : x.Pairwise fun p q => ltOf recCmp q p = false) : MrgD a b x ((mrgN a b b.length).2.mergeSort leB) := by
  have h := mrgN_inv ha hb b.length (Nat.le_refl _)
  have hi := ids_perm hp h.rep.ids
  refine ⟨⟨sorted_asc hs hi, hi⟩, fun r => ?_, ?_, sort_strict h.once, fun k => ?_⟩
  · rw [hp.mem_iff, h.rep.mem, List.take_length]
  · rw [hp.length_eq]; exact h.hi
  · rw [List.mem_mergeSort, h.differ, List.take_length]
theorem MrgD.uniq {a b x y : List Vrec} {d o : List (List UInt8)} (h : MrgD a b x d) (k : MrgD b a y o) : x = y ∧ d = o := by
  refine ⟨RecAsc.uniq h.asc.asc k.asc.asc (fun r => ?_), strict_unique h.ids k.ids (fun z => ?_)⟩
  · rw [h.top, k.top]
    exact Top.congr (fun r => by simp [or_comm]) r
  · rw [h.differ, k.differ]
    constructor
    · rintro ⟨r, hr, s, hs, q1, q2, q3⟩; exact ⟨s, hs, r, hr, q1.symm, fun e => q2 e.symm, q1.trans q3⟩
    · rintro ⟨r, hr, s, hs, q1, q2, q3⟩; exact ⟨s, hs, r, hr, q1.symm, fun e => q2 e.symm, q1.trans q3⟩
/-- Merging is merging, in whatever order, and once more changes nothing. -/
theorem mrg_law {a b c ab bc x y z : List Vrec} {d1 d2 d3 d4 d5 : List (List UInt8)} (h1 : MrgD a b ab d1) (h2 : MrgD b c bc d2) (h3 : MrgD ab c x d3) (h4 : MrgD a bc y d4) (h5 : MrgD x a z d5) : x = y ∧ x = z := by
  have e3 : ∀ r, r ∈ x ↔ Top ((a ++ b) ++ c) r := fun r => by rw [h3.top]; exact Top.nest h1.top r
  have e4 : ∀ r, r ∈ y ↔ Top ((b ++ c) ++ a) r := fun r => by
    rw [h4.top]
    exact (Top.congr (fun r => by simp [or_comm]) r).trans (Top.nest (N := a) h2.top r)
  have e5 : ∀ r, r ∈ z ↔ Top (((a ++ b) ++ c) ++ a) r := fun r => by rw [h5.top]; exact Top.nest e3 r
  refine ⟨RecAsc.uniq h3.asc.asc h4.asc.asc (fun r => ?_), RecAsc.uniq h3.asc.asc h5.asc.asc (fun r => ?_)⟩
  · rw [e3, e4]
    exact Top.congr (fun r => by simp only [List.mem_append]; constructor <;> (intro q; rcases q with (q | q) | q <;> simp [q])) r
  · rw [e3, e5]
    exact Top.congr (fun r => ⟨fun q => List.mem_append_left _ q, fun q => by
      rcases List.mem_append.1 q with q | q
      · exact q
      · exact List.mem_append_left _ (List.mem_append_left _ q)⟩) r
end Go.Proofs.YtleagenhnchjdaaGreatDoor

namespace Go.Proofs.YtleagenhnchjdaaGreatDoor
open Go.RowKit

theorem calls_pick (S k : Nat) (v : Value) (vals : List Int) (p : Int → Prop) (w : World) (h : StreamOk w S k) (hk : k ≤ 1000000000) (ha : (Spec.arr vals.length (· = vals.map (Value.int .i64))).holds S w v) (h1 : 1 ≤ vals.length) (h2 : vals.length ≤ 1000) (hp : ∀ x ∈ vals, p x) :
    Calls Tryz.prog 28 #[.pointer (some ⟨S, 0, none⟩), v] w (PickPost S (k + 1) p w) := by
  obtain ⟨b, vs, rfl, rfl, hb, hl, hc⟩ := ha
  refine pick_any S k b vals.length vals.length vals p w h hk hl hb h1 h2 (fun i hi => ?_) (fun i hi => ?_)
  · exact hc i _ (by simp [hi])
  · rw [show vals.getD i _ = vals[i] by simp [hi]]; exact hp _ (List.getElem_mem hi)

theorem calls_some (S k : Nat) (v : Value) (vals : List (List UInt8)) (p : List UInt8 → Prop) (w : World) (h : StreamOk w S k) (hk : k ≤ 1000000000) (ha : (Spec.arr vals.length (· = vals.map (fun s => Value.string ⟨s.toArray⟩))).holds S w v) (h1 : 1 ≤ vals.length) (h2 : vals.length ≤ 1000) (hp : ∀ x ∈ vals, p x) :
    Calls Tryz.prog 31 #[.pointer (some ⟨S, 0, none⟩), v] w (SomePost S (k + 1) p w) := by
  obtain ⟨b, vs, rfl, rfl, hb, hl, hc⟩ := ha
  refine some_any S k b vals.length vals.length vals p w h hk hl hb h1 h2 (fun i hi => ?_) (fun i hi => ?_)
  · exact hc i _ (by simp [hi])
  · rw [show vals.getD i _ = vals[i] by simp [hi]]; exact hp _ (List.getElem_mem hi)

/-- A slot by its place. -/
theorem slot_of {a : Act} {t : Tmp} {v : Value} (h : a.eval (.tmp t) = v) : a.tmps[t]?.getD undef = v := by rw [← h]; simp [Act.eval]
end Go.Proofs.YtleagenhnchjdaaGreatDoor

set_option linter.unusedVariables false
set_option linter.unusedSimpArgs false
namespace Go.Proofs.YtleagenhnchjdaaGreatDoor
open Go.RowKit Go.Sort Go.Lib

theorem numDigs (s : List UInt8) : isNumB s = (Lib.hasPrefix s [43] && ((decide ((4 : Int) ≤ ((Lib.trimPrefix s [43]).length : Int)) && decide (((Lib.trimPrefix s [43]).length : Int) ≤ 15)) && (onlyB (Lib.trimPrefix s [43]) [48, 49, 50, 51, 52, 53, 54, 55, 56, 57] && ((Lib.trimPrefix s [43]).headD 0 != 48)))) := by
  unfold isNumB digitsB
  rw [show allIn (Lib.trimPrefix s [43]) digitSet = onlyB (Lib.trimPrefix s [43]) [48, 49, 50, 51, 52, 53, 54, 55, 56, 57] from allIn_all _ _, Bool.and_assoc, Bool.and_assoc, Bool.and_assoc]
theorem trimP_lenR (s p : List UInt8) : (Lib.trimPrefix s p).length ≤ s.length := by
  unfold Lib.trimPrefix
  split
  · rw [List.length_drop]; omega
  · exact Nat.le_refl _
theorem within_acc (n lo hi : Int) (w : World) : Calls Tryz.prog 57 #[.int .i64 n, .int .i64 lo, .int .i64 hi] w fun e w' => e = .returned (.bool (decide (lo ≤ n) && decide (n ≤ hi))) ∧ w = w' := by
  by_cases h : lo ≤ n
  · rw [decide_eq_true h]
    go_enter Tryz.func57, Tryz.ntmps57
    go_wp2_with fail
    go_ret
    exact ⟨rfl, rfl⟩
  · rw [decide_eq_false h]
    go_enter Tryz.func57, Tryz.ntmps57
    go_wp2_with fail
    go_ret
    exact ⟨rfl, rfl⟩
set_option maxRecDepth 100000 in
set_option maxHeartbeats 2000000 in
theorem phone2_any (s : List UInt8) (w : World) (hs : s.length ≤ 1000) : Calls Tryz.prog 75 #[.string ⟨s.toArray⟩] w (BoolP (isNumB s) w) := by
  have HC : Hid (∀ W, Calls Tryz.prog 93 #[.string ⟨s.toArray⟩, .string ⟨#[43]⟩] W fun e w' => e = .returned (.tuple #[.string ⟨(Lib.trimPrefix s [43]).toArray⟩, .bool (Lib.hasPrefix s [43])]) ∧ w' = W) := fun W => Tryz.strings_CutPrefix ⟨s.toArray⟩ ⟨#[43]⟩ W
  have HL := trimP_lenR s [43]
  have HT : Hid (∀ W, Calls Tryz.prog 113 #[.string ⟨(Lib.trimPrefix s [43]).toArray⟩, .string ⟨#[48, 49, 50, 51, 52, 53, 54, 55, 56, 57]⟩] W fun e w' => e = .returned (.bool (onlyB (Lib.trimPrefix s [43]) [48, 49, 50, 51, 52, 53, 54, 55, 56, 57])) ∧ W = w') := fun W => only2_any _ [48, 49, 50, 51, 52, 53, 54, 55, 56, 57] W (by omega)
  have HD := Lib.hid (numDigs s)
  generalize Lib.trimPrefix s [43] = d at HC HT HD
  generalize Lib.hasPrefix s [43] = p at HC HD
  clear HL
  generalize onlyB d [48, 49, 50, 51, 52, 53, 54, 55, 56, 57] = ob at HT HD
  generalize isNumB s = R at HD ⊢
  obtain ⟨bi, hbi⟩ : ∃ b, b = (decide ((4 : Int) ≤ (d.length : Int)) && decide ((d.length : Int) ≤ 15)) := ⟨_, rfl⟩
  rw [← hbi] at HD
  have HBI := Lib.hid hbi
  clear hbi
  go_enter Tryz.func75, Tryz.ntmps75
  go_wp2_with fail
  refine (HC.out _).mono ?_
  rintro e w' ⟨rfl, hw⟩
  replace hw := hw.symm
  subst hw
  cases p
  · go_wp2_with fail
    go_ret
    exact ⟨by rw [HD.out]; rfl, Below.refl _ _⟩
  rw [Bool.true_and] at HD
  go_wp2_with fail
  refine (in2_any _ _ _ _).mono ?_
  rintro e w' ⟨rfl, hw⟩
  subst hw
  rw [← HBI.out]
  cases bi
  · go_wp2_with fail
    go_ret
    exact ⟨by rw [HD.out]; rfl, Below.refl _ _⟩
  rw [Bool.true_and] at HD
  have h4 : 4 ≤ d.length := by
    have := HBI.out
    have h := this.symm
    simp only [Bool.and_eq_true, decide_eq_true_eq] at h
    omega
  obtain ⟨c, d', rfl⟩ : ∃ c d', d = c :: d' := by cases d with | nil => simp at h4 | cons c d' => exact ⟨c, d', rfl⟩
  clear HBI h4
  go_wp2_with fail
  refine (HT.out _).mono ?_
  rintro e w' ⟨rfl, hw⟩
  subst hw
  cases ob
  · go_wp2_with fail
    go_ret
    exact ⟨by rw [HD.out]; rfl, Below.refl _ _⟩
  rw [Bool.true_and] at HD
  go_wp2_with fail
  go_ret
  exact ⟨by rw [HD.out]; simp only [List.headD_cons, ← byte_bne48]; rfl, Below.refl _ _⟩
end Go.Proofs.YtleagenhnchjdaaGreatDoor

set_option linter.unusedVariables false
set_option linter.unusedSimpArgs false
namespace Go.Proofs.YtleagenhnchjdaaGreatDoor
open Go.RowKit Go.Maps

theorem stLaw : Keyed Tryz.prog 9 := string_keyed Tryz.underlying9
theorem stKeyOf (x : List UInt8) (hx : x.length ≤ 1000) : keyOf Tryz.prog 9 (.string ⟨x.toArray⟩) = some (.string x) := by
  have := WideMaps.keyOf_string_mk (P := Tryz.prog) Tryz.underlying9 (s := ⟨x.toArray⟩) (by show x.toArray.size ≤ maxLen; simp [maxLen]; omega)
  simpa using this
theorem sbZero (w : World) : (zeroValue 4).run Tryz.prog w = .ok (.bool false) w := by kernel_rfl
theorem siZero (w : World) : (zeroValue 3).run Tryz.prog w = .ok (.int .i64 0) w := by kernel_rfl
theorem sbUnder : Tryz.prog.underlying 133 = some (.map 9 4) := by kernel_rfl
/-- Block b is a map that says true of what is listed. -/
def SbAt (w : World) (b n : Nat) (ds : List (List UInt8)) : Prop :=
  ∃ D : DataW Unit, w.ownsMap Tryz.prog 9 (plainElem Tryz.prog 4) b n D ∧ (∀ x, D.atKey (.string x) (.lit (.bool false)) = .lit (.bool (ds.contains x))) ∧ (∀ x, Maps.has D (.string x) = ds.contains x) ∧ Maps.size D = ds.length
theorem sbElem_inv {P : Program} {e : TypeId} (he : P.underlying e = some .bool) {v : Value} {z : DataW Unit × List MemPlace} (h : plainElem P e v = some z) : ∃ x, v = .bool x ∧ z = (.lit (.bool x), []) := by
  unfold plainElem at h
  rw [he] at h
  cases v <;> simp at h
  exact ⟨_, rfl, h.symm⟩
theorem SbAt.made (w : World) : SbAt (w.alloc (.map #[] 0)) w.heap.size 0 [] :=
  ⟨.map [], World.ownsMap_made _ _ _ _, fun x => rfl, fun x => rfl, rfl⟩
theorem SbAt.lt {w : World} {b n : Nat} {ds : List (List UInt8)} (h : SbAt w b n ds) : b < w.heap.size := by
  obtain ⟨D, ho, _⟩ := h
  exact ho.lt
theorem SbAt.below {w w' : World} {b n : Nat} {ds : List (List UInt8)} (h : SbAt w b n ds) (hb : Below w.heap.size w w') : SbAt w' b n ds := by
  obtain ⟨D, ho, r⟩ := h
  exact ⟨D, ho.kept (row := none) ⟨hb.os, hb.tape, hb.output, hb.size, fun k hk _ => hb.block k hk⟩ (by simp), r⟩
theorem SbAt.look {w : World} {b n : Nat} {ds : List (List UInt8)} (h : SbAt w b n ds) {x : List UInt8} (hx : x.length ≤ 1000) : (Instr.lookup 133 (.map (some b)) (.string ⟨x.toArray⟩) false).run Tryz.prog w = .ok (.bool (ds.contains x)) w := by
  obtain ⟨D, ho, hat, _⟩ := h
  obtain ⟨v, ps, hrun, hv⟩ := ho.lookup stLaw sbUnder (sbZero w) (plainElem_bool Tryz.underlying4 false) (stKeyOf x hx)
  obtain ⟨c, rfl, hc⟩ := sbElem_inv Tryz.underlying4 hv
  rw [hat] at hc
  simp only [Prod.mk.injEq, DataW.lit.injEq, Lit.bool.injEq] at hc
  rw [hrun, hc.1]
theorem SbAt.count {w : World} {b n : Nat} {ds : List (List UInt8)} (h : SbAt w b n ds) (ty : TypeId) : (Builtin.len_ #[133] ty #[.map (some b)]).run Tryz.prog w = .ok (.int .i64 ds.length) w := by
  obtain ⟨D, ho, _, _, hs⟩ := h
  rw [ho.len sbUnder, hs]
theorem SbAt.more {w : World} {b n : Nat} {ds : List (List UInt8)} (h : SbAt w b n ds) (hn : n < maxLen) {x : List UInt8} (hx : x.length ≤ 1000) : ∃ w', (Instr.mapUpdate 133 (.map (some b)) (.string ⟨x.toArray⟩) (.bool true)).run Tryz.prog w = .ok () w' ∧ SbAt w' b (n + 1) (if ds.contains x then ds else ds ++ [x]) ∧ w.grownBy w' (some b) := by
  obtain ⟨D, ho, hat, hhas, hs⟩ := h
  obtain ⟨w', hrun, ho', hg⟩ := ho.update stLaw sbUnder hn (stKeyOf x hx) (plainElem_bool Tryz.underlying4 true)
  have hm := ho.isMap
  have hk : WideAt.IsKeyLit (.string x) := trivial
  have hin : ∀ y, (if ds.contains x then ds else ds ++ [x]).contains y = (decide (y = x) || ds.contains y) := by
    intro y
    by_cases hc : ds.contains x = true
    · rw [if_pos hc]
      by_cases hy : y = x
      · subst hy; simp at hc; simp [hc]
      · simp [hy]
    · rw [if_neg hc]
      by_cases hy : y = x
      · simp [hy]
      · simp [hy]
  refine ⟨w', hrun, ⟨_, ho', fun y => ?_, fun y => ?_, ?_⟩, hg⟩
  · rw [hin]
    by_cases hy : y = x
    · subst hy; rw [atKey_put_same hm hk]; simp
    · rw [atKey_put_other (by intro e; injection e with e; exact hy e), hat]; simp [hy]
  · rw [hin]
    by_cases hy : y = x
    · subst hy; rw [has_put_same hm hk]; simp
    · rw [has_put_other (by intro e; injection e with e; exact hy e), hhas]; simp [hy]
  · rw [size_put (ho.tidy stLaw), hhas, hs]
    by_cases hc : ds.contains x = true
    · rw [if_pos hc, if_pos hc]
    · rw [if_neg hc, if_neg hc]; simp
/-- The store at its operation. -/
theorem wpList_sb (w : World) {ops : Array Oper} {rest : List Oper} {o : Oper} {a : Act} {Q : Exit → Act → World → Prop}
    (hg : o.guard = none) (m x v : Operand) (hop : o.op = Op.mapUpdate 133 m x v) (b n : Nat) (ds : List (List UInt8)) (hm : a.eval m = .map (some b)) (h : SbAt w b n ds) (hn : n < maxLen) (y : List UInt8) (hx : a.eval x = .string ⟨y.toArray⟩) (hv : a.eval v = .bool true) (hy : y.length ≤ 1000)
    (hK : ∀ w', SbAt w' b (n + 1) (if ds.contains y then ds else ds ++ [y]) → w.grownBy w' (some b) → wpList Tryz.prog ops Q rest (a.put o.dst undef) w') : wpList Tryz.prog ops Q (o :: rest) a w := by
  refine wpList_plain hg fun K' hK' => ?_
  obtain ⟨w', hrun, r1, r2⟩ := h.more hn hy
  unfold Oper.wp
  simp only [execOp, hop, hm, hx, hv, Sem.run_bind, hrun, Result.andThen_ok, Sem.run_pure]
  exact hK' _ _ (hK w' r1 r2)
/-- What is listed, each once. -/
def ddN (l : List (List UInt8)) : Nat → List (List UInt8)
  | 0 => []
  | i + 1 => if (ddN l i).contains (l.getD i []) then ddN l i else ddN l i ++ [l.getD i []]
theorem mem_ddN (l : List (List UInt8)) : ∀ i, i ≤ l.length → ∀ x, x ∈ ddN l i ↔ x ∈ l.take i
  | 0, _, x => by simp [ddN]
  | i + 1, h, x => by
    have ih := mem_ddN l i (by omega)
    have e : l.take (i + 1) = l.take i ++ [l.getD i []] := by
      rw [List.take_add_one, List.getElem?_eq_getElem (by omega), List.getD_eq_getElem?_getD, List.getElem?_eq_getElem (by omega)]
      rfl
    rw [e, List.mem_append, List.mem_singleton]
    unfold ddN
    split
    · next hc =>
      rw [ih]
      constructor
      · exact Or.inl
      · rintro (q | rfl)
        · exact q
        · exact (ih _).1 (by simpa using hc)
    · rw [List.mem_append, List.mem_singleton, ih]
theorem ddN_len (l : List (List UInt8)) : ∀ i, i ≤ l.length → (ddN l i).length ≤ i ∧ ((ddN l i).length = i → (l.take i).Nodup)
  | 0, _ => ⟨Nat.le_refl _, fun _ => by simp⟩
  | i + 1, h => by
    have ih := ddN_len l i (by omega)
    have hm := mem_ddN l i (by omega)
    have e : l.take (i + 1) = l.take i ++ [l.getD i []] := by
      rw [List.take_add_one, List.getElem?_eq_getElem (by omega), List.getD_eq_getElem?_getD, List.getElem?_eq_getElem (by omega)]
      rfl
    unfold ddN
    split
    · exact ⟨by omega, fun q => by omega⟩
    · next hc =>
      rw [List.length_append, List.length_singleton]
      refine ⟨by omega, fun q => ?_⟩
      rw [e, List.nodup_append]
      refine ⟨ih.2 (by omega), by simp, fun x hx y hy e2 => ?_⟩
      rw [List.mem_singleton.1 hy] at e2
      rw [e2] at hx
      exact hc (by simpa using (hm _).2 hx)
theorem siUnder : Tryz.prog.underlying 45 = some (.map 9 3) := by kernel_rfl
theorem siElem_inv {P : Program} {e : TypeId} (he : P.underlying e = some (.int .i64)) {v : Value} {z : DataW Unit × List MemPlace} (h : plainElem P e v = some z) : ∃ x, v = .int .i64 x ∧ z = (.lit (.int .i64 x), []) := by
  unfold plainElem at h
  rw [he] at h
  cases v <;> simp at h
  obtain ⟨⟨rfl, _⟩, h⟩ := h
  exact ⟨_, rfl, h.symm⟩
/-- Block b is a map that says f of strings. -/
def SiAt (w : World) (b n : Nat) (f : List UInt8 → Option Nat) : Prop :=
  ∃ D : DataW Unit, w.ownsMap Tryz.prog 9 (plainElem Tryz.prog 3) b n D ∧ (∀ x, D.atKey (.string x) (.lit (.int .i64 0)) = .lit (.int .i64 ((f x).getD 0 : Nat))) ∧ (∀ x, Maps.has D (.string x) = (f x).isSome)
theorem SiAt.made (w : World) : SiAt (w.alloc (.map #[] 0)) w.heap.size 0 (fun _ => none) :=
  ⟨.map [], World.ownsMap_made _ _ _ _, fun x => rfl, fun x => rfl⟩
theorem SiAt.lt {w : World} {b n : Nat} {f : List UInt8 → Option Nat} (h : SiAt w b n f) : b < w.heap.size := by
  obtain ⟨D, ho, _⟩ := h
  exact ho.lt
theorem SiAt.grown {w w' : World} {b n : Nat} {f : List UInt8 → Option Nat} (h : SiAt w b n f) {row : Option Nat} (hg : w.grownBy w' row) (hr : some b ≠ row) : SiAt w' b n f := by
  obtain ⟨D, ho, r⟩ := h
  exact ⟨D, ho.kept hg hr, r⟩
theorem SiAt.below {w w' : World} {b n : Nat} {f : List UInt8 → Option Nat} (h : SiAt w b n f) (hb : Below w.heap.size w w') : SiAt w' b n f :=
  h.grown (row := none) ⟨hb.os, hb.tape, hb.output, hb.size, fun k hk _ => hb.block k hk⟩ (by simp)
theorem SiAt.look {w : World} {b n : Nat} {f : List UInt8 → Option Nat} (h : SiAt w b n f) {x : List UInt8} (hx : x.length ≤ 1000) : (Instr.lookup 45 (.map (some b)) (.string ⟨x.toArray⟩) true).run Tryz.prog w = .ok (.tuple #[.int .i64 ((f x).getD 0 : Nat), .bool (f x).isSome]) w := by
  obtain ⟨D, ho, hat, hhas⟩ := h
  obtain ⟨v, ps, hrun, hv⟩ := ho.look_ok stLaw siUnder (siZero w) (plainElem_int Tryz.underlying3 (by decide)) (stKeyOf x hx)
  obtain ⟨c, rfl, hc⟩ := siElem_inv Tryz.underlying3 hv
  rw [hat] at hc
  simp only [Prod.mk.injEq, DataW.lit.injEq, Lit.int.injEq, true_and] at hc
  rw [hrun, hc.1, hhas]
theorem SiAt.more {w : World} {b n : Nat} {f : List UInt8 → Option Nat} (h : SiAt w b n f) (hn : n < maxLen) {x : List UInt8} (hx : x.length ≤ 1000) (i : Nat) (hi : i ≤ 100000) : ∃ w', (Instr.mapUpdate 45 (.map (some b)) (.string ⟨x.toArray⟩) (.int .i64 i)).run Tryz.prog w = .ok () w' ∧ SiAt w' b (n + 1) (fun y => if y = x then some i else f y) ∧ w.grownBy w' (some b) := by
  obtain ⟨D, ho, hat, hhas⟩ := h
  obtain ⟨w', hrun, ho', hg⟩ := ho.update stLaw siUnder hn (stKeyOf x hx) (plainElem_int Tryz.underlying3 (show (Lit.int .i64 (i : Int)).wf = true from WalkArith.wf_i64 (by omega)))
  have hm := ho.isMap
  have hk : WideAt.IsKeyLit (.string x) := trivial
  refine ⟨w', hrun, ⟨_, ho', fun y => ?_, fun y => ?_⟩, hg⟩
  · by_cases hy : y = x
    · subst hy; rw [atKey_put_same hm hk]; simp
    · rw [atKey_put_other (by intro e; injection e with e; exact hy e), hat]; simp [hy]
  · by_cases hy : y = x
    · subst hy; rw [has_put_same hm hk]; simp
    · rw [has_put_other (by intro e; injection e with e; exact hy e), hhas]; simp [hy]
theorem wpList_si (w : World) {ops : Array Oper} {rest : List Oper} {o : Oper} {a : Act} {Q : Exit → Act → World → Prop}
    (hg : o.guard = none) (m x v : Operand) (hop : o.op = Op.mapUpdate 45 m x v) (b n : Nat) (f : List UInt8 → Option Nat) (hm : a.eval m = .map (some b)) (h : SiAt w b n f) (hn : n < maxLen) (y : List UInt8) (hx : a.eval x = .string ⟨y.toArray⟩) (i : Nat) (hv : a.eval v = .int .i64 i) (hi : i ≤ 100000) (hy : y.length ≤ 1000)
    (hK : ∀ w', SiAt w' b (n + 1) (fun z => if z = y then some i else f z) → w.grownBy w' (some b) → wpList Tryz.prog ops Q rest (a.put o.dst undef) w') : wpList Tryz.prog ops Q (o :: rest) a w := by
  refine wpList_plain hg fun K' hK' => ?_
  obtain ⟨w', hrun, r1, r2⟩ := h.more hn hy i hi
  unfold Oper.wp
  simp only [execOp, hop, hm, hx, hv, Sem.run_bind, hrun, Result.andThen_ok, Sem.run_pure]
  exact hK' _ _ (hK w' r1 r2)
theorem wpList_siLook (w : World) {ops : Array Oper} {rest : List Oper} {o : Oper} {a : Act} {Q : Exit → Act → World → Prop}
    (hg : o.guard = none) (m x : Operand) (hop : o.op = Op.lookup 45 m x true) (b n : Nat) (f : List UInt8 → Option Nat) (hm : a.eval m = .map (some b)) (h : SiAt w b n f) (y : List UInt8) (hx : a.eval x = .string ⟨y.toArray⟩) (hy : y.length ≤ 1000)
    (hK : wpList Tryz.prog ops Q rest (a.put o.dst (.tuple #[.int .i64 ((f y).getD 0 : Nat), .bool (f y).isSome])) w) : wpList Tryz.prog ops Q (o :: rest) a w := by
  refine wpList_plain hg fun K' hK' => ?_
  have hrun := h.look hy
  unfold Oper.wp
  simp only [execOp, hop, hm, hx, Sem.run_bind, hrun, Result.andThen_ok, Sem.run_pure]
  exact hK' _ _ hK
end Go.Proofs.YtleagenhnchjdaaGreatDoor

set_option linter.unusedVariables false
set_option linter.unusedSimpArgs false
namespace Go.Proofs.YtleagenhnchjdaaGreatDoor
open Go.RowKit Go.Sort Go.Lib

set_option maxRecDepth 100000 in
set_option maxHeartbeats 16000000 in
theorem checkRecs_any (w : World) (base : Nat) (v : Value) (l : List Vrec) (h : VrecRow w base v l) (hl : l.length ≤ 1000) (hok : RecsOk l) (hb : ∀ a ∈ l, RecB a) :
    Calls Tryz.prog 25 #[v] w ((IntP 0 w)) := by
  unfold VrecRow at h
  obtain ⟨a, cap, rfl⟩ := own_shape h
  have HO := Lib.hid h
  have HB := Lib.hid hb
  have HOK := Lib.hid hok
  obtain ⟨n, hn⟩ : ∃ n, n = l.length := ⟨_, rfl⟩
  have HN := Lib.hid hn
  rw [← hn] at HO hl ⊢
  clear hn h hb hok
  have hl0 : ¬ (3000 : Int) < (n : Int) := by omega
  have HM1 : Hid (SbAt (w.alloc (.map #[] 0)) w.heap.size 0 []) := SbAt.made w
  have HBM : Hid (Below w.heap.size w (w.alloc (.map #[] 0))) := ext_alloc (Below.refl _ _)
  have hmm := @run_makeMap Tryz.prog
  go_enter Tryz.func25, Tryz.ntmps25
  go_wp2_with fail
  clear hl0 hmm
  obtain ⟨M, hM⟩ : ∃ M, M = w.heap.size := ⟨_, rfl⟩
  have HME := Lib.hid hM
  rw [← hM] at HM1 ⊢
  clear hM
  go_loopw [4, 13] (fun tv it wr => ∃ i : Nat, i ≤ n ∧ it = .int .i64 i ∧ tv = .bool false ∧ Hid (SbAt wr M i ((l.take i).map Vrec.id)) ∧ Hid (Below w.heap.size w wr)) (fun _ it _ => n - (intOf it).toNat)
  case atStart => exact ⟨0, Nat.zero_le _, rfl, rfl, HM1.out, HBM.out⟩
  case round =>
    clear HM1 HBM
    obtain ⟨i, hi, rfl, rfl, HSB, HBW⟩ := hrel
    have hM0 : w.heap.size ≤ M := by have := HME.out; omega
    by_cases hlt : i < n
    case neg =>
      obtain rfl : i = n := by omega
      have hin : ¬ ((i : Int) < (i : Int)) := by omega
      as_aux_lemma =>
        go_wp2_with fail
        go_ret
        exact ⟨rfl, HBW.out⟩
    have hin : (i : Int) < (n : Int) := by omega
    have hil : i < l.length := by have := HN.out; omega
    have hO := own_keep HO.out HBW.out
    obtain ⟨g, rfl, hg0, hgw⟩ := own_pos hO (by omega)
    have HBX := Lib.hid (HB.out _ (rget_mem hil))
    have HPREV : Hid (∀ i1, i = i1 + 1 → ∀ W9, Below w.heap.size w W9 → W9.cell? ⟨g, i1 * 8, none⟩ = some (.string ⟨(l.getD i1 default).id.toArray⟩) ∧ W9.cell? ⟨g, i1 * 8 + 1, none⟩ = some (.string ⟨(l.getD i1 default).frm.toArray⟩) ∧ W9.cell? ⟨g, i1 * 8 + 2, none⟩ = some (.string ⟨(l.getD i1 default).to_.toArray⟩) ∧ W9.cell? ⟨g, i1 * 8 + 3, none⟩ = some (.int .i64 (l.getD i1 default).at_) ∧ W9.cell? ⟨g, i1 * 8 + 4, none⟩ = some (.int .i64 (l.getD i1 default).ring) ∧ W9.cell? ⟨g, i1 * 8 + 5, none⟩ = some (.int .i64 (l.getD i1 default).talk) ∧ W9.cell? ⟨g, i1 * 8 + 6, none⟩ = some (.int .i64 (l.getD i1 default).how) ∧ W9.cell? ⟨g, i1 * 8 + 7, none⟩ = some (.string ⟨(l.getD i1 default).car.toArray⟩)) := fun i1 e W9 hW => ⟨own_field Vrec.cells (fun _ => rfl) (own_keep HO.out hW) i1 0 default (by omega) (by omega) rfl, own_field Vrec.cells (fun _ => rfl) (own_keep HO.out hW) i1 1 default (by omega) (by omega) rfl, own_field Vrec.cells (fun _ => rfl) (own_keep HO.out hW) i1 2 default (by omega) (by omega) rfl, own_field Vrec.cells (fun _ => rfl) (own_keep HO.out hW) i1 3 default (by omega) (by omega) rfl, own_field Vrec.cells (fun _ => rfl) (own_keep HO.out hW) i1 4 default (by omega) (by omega) rfl, own_field Vrec.cells (fun _ => rfl) (own_keep HO.out hW) i1 5 default (by omega) (by omega) rfl, own_field Vrec.cells (fun _ => rfl) (own_keep HO.out hW) i1 6 default (by omega) (by omega) rfl, own_field Vrec.cells (fun _ => rfl) (own_keep HO.out hW) i1 7 default (by omega) (by omega) rfl⟩
    have HCM : Hid (∀ i1, i = i1 + 1 → ∀ W, Calls Tryz.prog 55 #[(l.getD i1 default).val, (l.getD i default).val] W fun e w' => e = .returned (.int .i64 (recCmp (l.getD i1 default) (l.getD i default))) ∧ Below W.heap.size W w') := fun i1 _ W => cmpRec_b _ _ W
    have HTK : Hid ((l.take (i + 1)).map Vrec.id = (l.take i).map Vrec.id ++ [(l.getD i default).id]) := by
      show _ = _
      rw [rtake_succ l hil, List.map_append]; rfl
    have HNI : Hid (((l.take i).map Vrec.id).contains (l.getD i default).id = false) := by
      show _ = false
      rw [← Bool.not_eq_true, List.contains_iff_mem]
      intro hc
      obtain ⟨y, hy, hye⟩ := List.mem_map.1 hc
      obtain ⟨j, hj, rfl⟩ := List.getElem_of_mem hy
      rw [List.length_take] at hj
      rw [List.getElem_take, rget hil] at hye
      exact List.pairwise_iff_getElem.1 HOK.out.ids j i (by omega) hil (by omega) hye
    have d0 := own_field Vrec.cells (fun _ => rfl) hO i 0 default hil (by omega) rfl
    have d1 := own_field Vrec.cells (fun _ => rfl) hO i 1 default hil (by omega) rfl
    have d2 := own_field Vrec.cells (fun _ => rfl) hO i 2 default hil (by omega) rfl
    have d3 := own_field Vrec.cells (fun _ => rfl) hO i 3 default hil (by omega) rfl
    have d4 := own_field Vrec.cells (fun _ => rfl) hO i 4 default hil (by omega) rfl
    have d5 := own_field Vrec.cells (fun _ => rfl) hO i 5 default hil (by omega) rfl
    have d6 := own_field Vrec.cells (fun _ => rfl) hO i 6 default hil (by omega) rfl
    have d7 := own_field Vrec.cells (fun _ => rfl) hO i 7 default hil (by omega) rfl
    have hXV : (l.getD i default).val = .agg #[.string ⟨(l.getD i default).id.toArray⟩, .string ⟨(l.getD i default).frm.toArray⟩, .string ⟨(l.getD i default).to_.toArray⟩, .int .i64 (l.getD i default).at_, .int .i64 (l.getD i default).ring, .int .i64 (l.getD i default).talk, .int .i64 (l.getD i default).how, .string ⟨(l.getD i default).car.toArray⟩] := rfl
    rw [hXV] at HCM
    clear hXV hO
    have HGD := Lib.hid (HOK.out.good _ (rget_mem hil))
    obtain ⟨x, hx⟩ : ∃ x, x = l.getD i default := ⟨_, rfl⟩
    rw [← hx] at d0 d1 d2 d3 d4 d5 d6 d7 HCM HBX HGD HTK HNI
    have HX := Lib.hid hx
    clear hx
    have HCL : Hid (x.car.length ≤ 10) := carsB_len _ HBX.out.car
    have HMO : Hid (∀ W, Calls Tryz.prog 50 #[.int .i64 x.at_] W (BoolP true W)) := fun W => by rw [← HGD.out.mom]; exact ((isMoment_any _ W).mono (fun e w2 h => ⟨h.1, by rw [← h.2]; exact Below.refl _ _⟩))
    have HK1 : Hid (∀ W, Calls Tryz.prog 49 #[.string ⟨x.id.toArray⟩] W (BoolP true W)) := fun W => by rw [← HGD.out.id]; exact isKey_any _ W (by have := HBX.out.id; omega)
    have HK2 : Hid (∀ W, Calls Tryz.prog 49 #[.string ⟨x.car.toArray⟩] W (BoolP (isKeyB x.car) W)) := fun W => isKey_any _ W (by have := HCL.out; omega)
    have HP1 : Hid (∀ W, Calls Tryz.prog 48 #[.string ⟨x.frm.toArray⟩] W (BoolP true W)) := fun W => by rw [← HGD.out.frm]; exact isNumber_l _ W (by have := HBX.out.frm; omega)
    have HP2 : Hid (∀ W, Calls Tryz.prog 48 #[.string ⟨x.to_.toArray⟩] W (BoolP true W)) := fun W => by rw [← HGD.out.to_]; exact isNumber_l _ W (by have := HBX.out.to_; omega)
    have HIN : Hid (∀ z lo hi W, Calls Tryz.prog 57 #[.int .i64 z, .int .i64 lo, .int .i64 hi] W (BoolP (decide (lo ≤ z) && decide (z ≤ hi)) W)) := fun z lo hi W => ((within_acc z lo hi W).mono (fun e w2 h => ⟨h.1, by rw [← h.2]; exact Below.refl _ _⟩))
    obtain ⟨bC, hbC⟩ : ∃ b, b = isKeyB x.car := ⟨_, rfl⟩
    rw [← hbC] at HK2
    have HEbC := Lib.hid hbC
    clear hbC
    have HIL : Hid (x.id.length ≤ 1000) := by have := HBX.out.id; show _ ≤ _; omega
    have HEN : Hid (x.how = 1 ↔ 0 < x.talk) := HGD.out.ends
    have HCR : Hid (x.car = [] ∨ bC = true) := by rw [HEbC.out]; exact HGD.out.car
    have HINR := HIN.out x.ring 0 86400000
    rw [decide_eq_true HGD.out.ring0, decide_eq_true HGD.out.ring1] at HINR
    have HINR := Lib.hid HINR
    have HINT := HIN.out x.talk 0 86400000
    rw [decide_eq_true HGD.out.talk0, decide_eq_true HGD.out.talk1] at HINT
    have HINT := Lib.hid HINT
    have HINH := HIN.out x.how 1 4
    rw [decide_eq_true HGD.out.how0, decide_eq_true HGD.out.how1] at HINH
    have HINH := Lib.hid HINH
    clear HIN
    obtain ⟨xi, hxi⟩ : ∃ z : List UInt8, z = x.id := ⟨_, rfl⟩
    obtain ⟨b1, hb1⟩ : ∃ z : ByteArray, z = ⟨x.frm.toArray⟩ := ⟨_, rfl⟩
    obtain ⟨b2, hb2⟩ : ∃ z : ByteArray, z = ⟨x.to_.toArray⟩ := ⟨_, rfl⟩
    obtain ⟨x3, hx3⟩ : ∃ z, z = x.at_ := ⟨_, rfl⟩
    obtain ⟨x4, hx4⟩ : ∃ z, z = x.ring := ⟨_, rfl⟩
    obtain ⟨x5, hx5⟩ : ∃ z, z = x.talk := ⟨_, rfl⟩
    obtain ⟨x6, hx6⟩ : ∃ z, z = x.how := ⟨_, rfl⟩
    obtain ⟨xc, hxc⟩ : ∃ z : List UInt8, z = x.car := ⟨_, rfl⟩
    have HZ5 := Lib.hid hx5
    have HZ6 := Lib.hid hx6
    have HZC := Lib.hid hxc
    rw [← hxi] at d0 HK1 HCM HNI HTK HIL
    rw [← hb1] at d1 HP1 HCM
    rw [← hb2] at d2 HP2 HCM
    rw [← hx3] at d3 HMO HCM
    rw [← hx4] at d4 HINR HCM
    rw [← hx5] at d5 HINT HCM HEN
    rw [← hx6] at d6 HINH HCM HEN
    rw [← hxc] at d7 HK2 HCM HCR
    rw [Nat.add_zero] at d0
    clear hxi hb1 hb2 hx3 hx4 hx5 hx6 hxc
    have hil9 := HIL.out
    have X1 : Hid (Blk (wr.alloc (.cells #[.string ⟨xi.toArray⟩, .string b1, .string b2, .int .i64 x3, .int .i64 x4, .int .i64 x5, .int .i64 x6, .string ⟨xc.toArray⟩] 50)) wr.heap.size [.string ⟨xi.toArray⟩, .string b1, .string b2, .int .i64 x3, .int .i64 x4, .int .i64 x5, .int .i64 x6, .string ⟨xc.toArray⟩] 50) := Blk.new _ _ _
    have HB1 : Hid (Below wr.heap.size wr (wr.alloc (.cells #[.string ⟨xi.toArray⟩, .string b1, .string b2, .int .i64 x3, .int .i64 x4, .int .i64 x5, .int .i64 x6, .string ⟨xc.toArray⟩] 50))) := ext_alloc (Below.refl _ _)
    as_aux_lemma =>
      go_upto_region 8 with (fail)
      clear d0 d1 d2 d3 d4 d5 d6 d7
      generalize (wr.alloc (.cells #[.string ⟨xi.toArray⟩, .string b1, .string b2, .int .i64 x3, .int .i64 x4, .int .i64 x5, .int .i64 x6, .string ⟨xc.toArray⟩] 50)) = w1 at X1 HB1 ⊢
      generalize wr.heap.size = B at X1 ⊢
      have c0 := X1.out.cell 0 rfl
      have c1 := X1.out.cell 1 rfl
      have c2 := X1.out.cell 2 rfl
      have c3 := X1.out.cell 3 rfl
      have c4 := X1.out.cell 4 rfl
      have c5 := X1.out.cell 5 rfl
      have c6 := X1.out.cell 6 rfl
      have c7 := X1.out.cell 7 rfl
      as_aux_lemma =>
        go_wp2_with fail
        refine (HK1.out _).mono ?_
        rintro e w2 ⟨rfl, hb⟩
        have X2 := Lib.hid (X1.out.below hb)
        have HB2 := Lib.hid (ext_trans HB1.out hb)
        clear hb c0 c1 c2 c3 c4 c5 c6 c7 X1 HB1
        have c0 := X2.out.cell 0 rfl
        have c1 := X2.out.cell 1 rfl
        have c2 := X2.out.cell 2 rfl
        have c3 := X2.out.cell 3 rfl
        have c4 := X2.out.cell 4 rfl
        have c5 := X2.out.cell 5 rfl
        have c6 := X2.out.cell 6 rfl
        have c7 := X2.out.cell 7 rfl
        as_aux_lemma =>
          go_wp2_with fail
          refine (HP1.out _).mono ?_
          rintro e w3 ⟨rfl, hb⟩
          have X3 := Lib.hid (X2.out.below hb)
          have HB3 := Lib.hid (ext_trans HB2.out hb)
          clear hb c0 c1 c2 c3 c4 c5 c6 c7 X2 HB2
          have c0 := X3.out.cell 0 rfl
          have c1 := X3.out.cell 1 rfl
          have c2 := X3.out.cell 2 rfl
          have c3 := X3.out.cell 3 rfl
          have c4 := X3.out.cell 4 rfl
          have c5 := X3.out.cell 5 rfl
          have c6 := X3.out.cell 6 rfl
          have c7 := X3.out.cell 7 rfl
          as_aux_lemma =>
            go_wp2_with fail
            refine (HP2.out _).mono ?_
            rintro e w4 ⟨rfl, hb⟩
            have X4 := Lib.hid (X3.out.below hb)
            have HB4 := Lib.hid (ext_trans HB3.out hb)
            clear hb c0 c1 c2 c3 c4 c5 c6 c7 X3 HB3
            have c0 := X4.out.cell 0 rfl
            have c1 := X4.out.cell 1 rfl
            have c2 := X4.out.cell 2 rfl
            have c3 := X4.out.cell 3 rfl
            have c4 := X4.out.cell 4 rfl
            have c5 := X4.out.cell 5 rfl
            have c6 := X4.out.cell 6 rfl
            have c7 := X4.out.cell 7 rfl
            as_aux_lemma =>
              go_wp2_with fail
              refine (HMO.out _).mono ?_
              rintro e w5 ⟨rfl, hb⟩
              have X5 := Lib.hid (X4.out.below hb)
              have HB5 := Lib.hid (ext_trans HB4.out hb)
              clear hb c0 c1 c2 c3 c4 c5 c6 c7 X4 HB4
              have c0 := X5.out.cell 0 rfl
              have c1 := X5.out.cell 1 rfl
              have c2 := X5.out.cell 2 rfl
              have c3 := X5.out.cell 3 rfl
              have c4 := X5.out.cell 4 rfl
              have c5 := X5.out.cell 5 rfl
              have c6 := X5.out.cell 6 rfl
              have c7 := X5.out.cell 7 rfl
              as_aux_lemma =>
                go_wp2_with fail
                refine (HINR.out _).mono ?_
                rintro e w6 ⟨rfl, hb⟩
                have X6 := Lib.hid (X5.out.below hb)
                have HB6 := Lib.hid (ext_trans HB5.out hb)
                clear hb c0 c1 c2 c3 c4 c5 c6 c7 X5 HB5
                have c0 := X6.out.cell 0 rfl
                have c1 := X6.out.cell 1 rfl
                have c2 := X6.out.cell 2 rfl
                have c3 := X6.out.cell 3 rfl
                have c4 := X6.out.cell 4 rfl
                have c5 := X6.out.cell 5 rfl
                have c6 := X6.out.cell 6 rfl
                have c7 := X6.out.cell 7 rfl
                as_aux_lemma =>
                  go_wp2_with fail
                  refine (HINT.out _).mono ?_
                  rintro e w7 ⟨rfl, hb⟩
                  have X7 := Lib.hid (X6.out.below hb)
                  have HB7 := Lib.hid (ext_trans HB6.out hb)
                  clear hb c0 c1 c2 c3 c4 c5 c6 c7 X6 HB6
                  have c0 := X7.out.cell 0 rfl
                  have c1 := X7.out.cell 1 rfl
                  have c2 := X7.out.cell 2 rfl
                  have c3 := X7.out.cell 3 rfl
                  have c4 := X7.out.cell 4 rfl
                  have c5 := X7.out.cell 5 rfl
                  have c6 := X7.out.cell 6 rfl
                  have c7 := X7.out.cell 7 rfl
                  as_aux_lemma =>
                    go_wp2_with fail
                    refine (HINH.out _).mono ?_
                    rintro e w8 ⟨rfl, hb⟩
                    have X8 := Lib.hid (X7.out.below hb)
                    have HB8 := Lib.hid (ext_trans HB7.out hb)
                    clear hb c0 c1 c2 c3 c4 c5 c6 c7 X7 HB7
                    have c0 := X8.out.cell 0 rfl
                    have c1 := X8.out.cell 1 rfl
                    have c2 := X8.out.cell 2 rfl
                    have c3 := X8.out.cell 3 rfl
                    have c4 := X8.out.cell 4 rfl
                    have c5 := X8.out.cell 5 rfl
                    have c6 := X8.out.cell 6 rfl
                    have c7 := X8.out.cell 7 rfl
                    as_aux_lemma =>
                      go_upto_region 16 with (fail)
                      go_cut [56] (fun v wc => ∃ c : Bool, v = .bool c ∧ Hid (c = !decide (x6 = 1 ↔ 0 < x5)) ∧ Hid (Below w8.heap.size w8 wc))
                      case first =>
                        by_cases h1 : x6 = 1
                        case pos =>
                          subst h1
                          by_cases h2 : 0 < x5
                          case pos =>
                            have HEE : Hid (false = !decide ((1 : Int) = 1 ↔ 0 < x5)) := by show _ = _; simp [h2]
                            as_aux_lemma =>
                              go_wp2_with fail
                              go_meet
                              exact ⟨false, rfl, HEE.out, Below.refl _ _⟩
                          have h2b : x5 ≤ 0 := by omega
                          have HEE : Hid (true = !decide ((1 : Int) = 1 ↔ 0 < x5)) := by show _ = _; simp [h2b]
                          as_aux_lemma =>
                            go_wp2_with fail
                            go_meet
                            exact ⟨true, rfl, HEE.out, Below.refl _ _⟩
                        have h1b : (x6 == 1) = false := by simpa using h1
                        by_cases h2 : 0 < x5
                        case pos =>
                          have HEE : Hid (true = !decide (x6 = 1 ↔ 0 < x5)) := by show _ = _; simp [h1, h2]
                          as_aux_lemma =>
                            go_wp2_with fail
                            go_meet
                            exact ⟨true, rfl, HEE.out, Below.refl _ _⟩
                        have h2b : x5 ≤ 0 := by omega
                        have HEE : Hid (false = !decide (x6 = 1 ↔ 0 < x5)) := by show _ = _; simp [h1, h2b]
                        as_aux_lemma =>
                          go_wp2_with fail
                          go_meet
                          exact ⟨false, rfl, HEE.out, Below.refl _ _⟩
                      case rest =>
                        obtain ⟨c, rfl, hc, hV⟩ := hcut
                        obtain ⟨w9, rfl⟩ : ∃ x : World, x = wc := ⟨_, rfl⟩
                        have X9 := Lib.hid (X8.out.below hV.out)
                        have HB9 := Lib.hid (ext_trans HB8.out hV.out)
                        clear hV X8 HB8
                        have c0 := X9.out.cell 0 rfl
                        have c1 := X9.out.cell 1 rfl
                        have c2 := X9.out.cell 2 rfl
                        have c3 := X9.out.cell 3 rfl
                        have c4 := X9.out.cell 4 rfl
                        have c5 := X9.out.cell 5 rfl
                        have c6 := X9.out.cell 6 rfl
                        have c7 := X9.out.cell 7 rfl
                        obtain rfl : c = false := by rw [hc.out]; simp [HEN.out]
                        clear hc
                        as_aux_lemma =>
                          go_upto_region 18 with (fail)
                          go_cut [64] (fun v wc => ∃ c : Bool, v = .bool c ∧ Hid (c = false ↔ (xc = [] ∨ bC = true)) ∧ Hid (Below w9.heap.size w9 wc))
                          case first =>
                            by_cases hx : xc = []
                            case pos =>
                              subst hx
                              as_aux_lemma =>
                                go_wp2_with fail
                                go_meet
                                exact ⟨false, rfl, (by show _ ↔ _; simp), Below.refl _ _⟩
                            have hxe : (xc == []) = false := beq_eq_false_iff_ne.2 hx
                            have hxn : (xc != []) = true := bne_iff_ne.2 hx
                            have hxm : xc.isEmpty = false := by cases xc with | nil => exact absurd rfl hx | cons => rfl
                            have HXX := Lib.hid hx
                            as_aux_lemma =>
                              go_wp2_with fail
                              refine (HK2.out _).mono ?_
                              rintro e wb ⟨rfl, hb⟩
                              have HBb := Lib.hid hb
                              clear hb
                              cases bC
                              case false =>
                                as_aux_lemma =>
                                  go_wp2_with fail
                                  go_meet
                                  exact ⟨true, rfl, (by show _ ↔ _; simp [HXX.out]), HBb.out⟩
                              as_aux_lemma =>
                                go_wp2_with fail
                                go_meet
                                exact ⟨false, rfl, (by show _ ↔ _; simp), HBb.out⟩
                          case rest =>
                            obtain ⟨c, rfl, hc, hV⟩ := hcut
                            obtain ⟨w10, rfl⟩ : ∃ x : World, x = wc := ⟨_, rfl⟩
                            have X10 := Lib.hid (X9.out.below hV.out)
                            have HB10 := Lib.hid (ext_trans HB9.out hV.out)
                            clear hV X9 HB9
                            have c0 := X10.out.cell 0 rfl
                            have c1 := X10.out.cell 1 rfl
                            have c2 := X10.out.cell 2 rfl
                            have c3 := X10.out.cell 3 rfl
                            have c4 := X10.out.cell 4 rfl
                            have c5 := X10.out.cell 5 rfl
                            have c6 := X10.out.cell 6 rfl
                            have c7 := X10.out.cell 7 rfl
                            obtain rfl : c = false := hc.out.2 HCR.out
                            clear hc
                            as_aux_lemma =>
                              go_upto_region 20 with (fail)
                              go_cut [74] (fun v wc => ∃ c : Bool, v = .bool c ∧ Hid (c = false → ∀ i1, i = i1 + 1 → recCmp (l.getD i1 default) x < 0) ∧ Hid ((∀ i1, i = i1 + 1 → recCmp (l.getD i1 default) x < 0) → c = false) ∧ Hid (Below w10.heap.size w10 wc))
                              case first =>
                                have hd : Below w10.heap.size w10 w10.drew := ext_drew (Below.refl _ _)
                                have XD := Lib.hid (X10.out.below hd)
                                have HBD := Lib.hid (ext_trans HB10.out hd)
                                have HVD := Lib.hid hd
                                clear hd X10 HB10 c0 c1 c2 c3 c4 c5 c6 c7
                                by_cases hiz : i = 0
                                case pos =>
                                  have HIZ := Lib.hid hiz
                                  have HEE : Hid (∀ i1, i = i1 + 1 → recCmp (l.getD i1 default) x < 0) := fun i1 h => absurd h (by omega)
                                  clear hiz HCM HPREV
                                  as_aux_lemma =>
                                    refine region_seqI (S := fun W9 => Below w10.drew.heap.size w10.drew W9) [(true, 0), (true, 1), (true, 2), (true, 3), (true, 4), (true, 5), (true, 6), (true, 7), (true, 8), (true, 9), (true, 10), (true, 11), (true, 12)] (by kernel_rfl) (by kernel_rfl) rfl (by kernel_rfl) (Below.refl _ _) ?_
                                    generalize w10.drew = wd at XD HBD HVD ⊢
                                    simp only [seqOps, List.getD_cons_zero, List.getD_cons_succ]
                                    refine seqI_take (v := .int .i64 i) rfl (fun W9 hW => by clear hW; go_simp) (fun _ _ _ h => h) ?_
                                    simp only [Act.put, List.setIfInBounds_toArray, List.set_cons_zero, List.set_cons_succ]
                                    refine seqI_take (v := .bool false) rfl (fun W9 hW => by clear hW; go_simp; exact HIZ.out) (fun _ _ _ h => h) ?_
                                    simp only [Act.put, List.setIfInBounds_toArray, List.set_cons_zero, List.set_cons_succ]
                                    refine seqI_take (v := .bool false) rfl (fun W9 hW => by clear hW; go_simp) (fun _ _ _ h => h) ?_
                                    simp only [Act.put, List.setIfInBounds_toArray, List.set_cons_zero, List.set_cons_succ]
                                    refine seqI_skip rfl (fun _ _ _ h => h) ?_
                                    simp only [Act.put, List.setIfInBounds_toArray, List.set_cons_zero, List.set_cons_succ]
                                    refine seqI_skip rfl (fun _ _ _ h => h) ?_
                                    simp only [Act.put, List.setIfInBounds_toArray, List.set_cons_zero, List.set_cons_succ]
                                    refine seqI_skip rfl (fun _ _ _ h => h) ?_
                                    simp only [Act.put, List.setIfInBounds_toArray, List.set_cons_zero, List.set_cons_succ]
                                    refine seqI_skip rfl (fun _ _ _ h => h) ?_
                                    simp only [Act.put, List.setIfInBounds_toArray, List.set_cons_zero, List.set_cons_succ]
                                    refine seqI_skip rfl (fun _ _ _ h => h) ?_
                                    simp only [Act.put, List.setIfInBounds_toArray, List.set_cons_zero, List.set_cons_succ]
                                    refine seqI_skip rfl (fun _ _ _ h => h) ?_
                                    simp only [Act.put, List.setIfInBounds_toArray, List.set_cons_zero, List.set_cons_succ]
                                    refine seqI_skip rfl (fun _ _ _ h => h) ?_
                                    simp only [Act.put, List.setIfInBounds_toArray, List.set_cons_zero, List.set_cons_succ]
                                    refine seqI_skip rfl (fun _ _ _ h => h) ?_
                                    simp only [Act.put, List.setIfInBounds_toArray, List.set_cons_zero, List.set_cons_succ]
                                    refine seqI_take (v := .bool false) rfl (fun W9 hW => by clear hW; go_simp) (fun _ _ _ h => h) ?_
                                    simp only [Act.put, List.setIfInBounds_toArray, List.set_cons_zero, List.set_cons_succ]
                                    refine seqI_take (v := .bool false) rfl (fun W9 hW => by clear hW; go_simp) (fun _ _ _ h => h) ?_
                                    simp only [Act.put, List.setIfInBounds_toArray, List.set_cons_zero, List.set_cons_succ]
                                    refine seqI_nil ?_
                                    go_wp2_with fail
                                    go_meet
                                    exact ⟨false, rfl, (fun _ => HEE.out), (fun _ => rfl), HVD.out⟩
                                obtain ⟨i1, hi1⟩ : ∃ i1, i = i1 + 1 := ⟨i - 1, by omega⟩
                                have HI1 := Lib.hid hi1
                                have hip : 0 < i := by omega
                                have HIP := Lib.hid hip
                                have hw1 : IntKind.i64.wrap ((i : Int) - 1) = (i1 : Int) := by rw [show (i : Int) - 1 = (i1 : Int) by omega]; exact IntWalk.i64_in _ (by omega)
                                have h1n : (i1 : Int) < (n : Int) := by omega
                                have h10 : ¬ ((i1 : Int) < 0) := by omega
                                have HC1 := Lib.hid (HCM.out i1 hi1)
                                have HP1 := Lib.hid (HPREV.out i1 hi1)
                                clear hiz hi1 hip HCM HPREV
                                obtain ⟨r, hr⟩ : ∃ r, r = recCmp (l.getD i1 default) x := ⟨_, rfl⟩
                                have HR := Lib.hid hr
                                rw [← hr] at HC1
                                have HC2 : Hid (∀ W, Calls Tryz.prog 55 #[.agg #[.string ⟨(l.getD i1 default).id.toArray⟩, .string ⟨(l.getD i1 default).frm.toArray⟩, .string ⟨(l.getD i1 default).to_.toArray⟩, .int .i64 (l.getD i1 default).at_, .int .i64 (l.getD i1 default).ring, .int .i64 (l.getD i1 default).talk, .int .i64 (l.getD i1 default).how, .string ⟨(l.getD i1 default).car.toArray⟩], .agg #[.string ⟨xi.toArray⟩, .string b1, .string b2, .int .i64 x3, .int .i64 x4, .int .i64 x5, .int .i64 x6, .string ⟨xc.toArray⟩]] W fun e w' => e = .returned (.int .i64 r) ∧ Below W.heap.size W w') := HC1.out
                                clear hr HC1
                                generalize (⟨(l.getD i1 default).id.toArray⟩ : ByteArray) = z0 at HP1 HC2
                                generalize (⟨(l.getD i1 default).frm.toArray⟩ : ByteArray) = z1 at HP1 HC2
                                generalize (⟨(l.getD i1 default).to_.toArray⟩ : ByteArray) = z2 at HP1 HC2
                                generalize (l.getD i1 default).at_ = z3 at HP1 HC2
                                generalize (l.getD i1 default).ring = z4 at HP1 HC2
                                generalize (l.getD i1 default).talk = z5 at HP1 HC2
                                generalize (l.getD i1 default).how = z6 at HP1 HC2
                                generalize (⟨(l.getD i1 default).car.toArray⟩ : ByteArray) = z7 at HP1 HC2
                                have HCE : Hid (∀ W9, Below w10.drew.heap.size w10.drew W9 → (W9.cell? ⟨g, i1 * 8, none⟩ = some (.string z0) ∧ W9.cell? ⟨g, i1 * 8 + 1, none⟩ = some (.string z1) ∧ W9.cell? ⟨g, i1 * 8 + 2, none⟩ = some (.string z2) ∧ W9.cell? ⟨g, i1 * 8 + 3, none⟩ = some (.int .i64 z3) ∧ W9.cell? ⟨g, i1 * 8 + 4, none⟩ = some (.int .i64 z4) ∧ W9.cell? ⟨g, i1 * 8 + 5, none⟩ = some (.int .i64 z5) ∧ W9.cell? ⟨g, i1 * 8 + 6, none⟩ = some (.int .i64 z6) ∧ W9.cell? ⟨g, i1 * 8 + 7, none⟩ = some (.string z7)) ∧ (W9.cell? ⟨B, 0, none⟩ = some (.string ⟨xi.toArray⟩) ∧ W9.cell? ⟨B, 1, none⟩ = some (.string b1) ∧ W9.cell? ⟨B, 2, none⟩ = some (.string b2) ∧ W9.cell? ⟨B, 3, none⟩ = some (.int .i64 x3) ∧ W9.cell? ⟨B, 4, none⟩ = some (.int .i64 x4) ∧ W9.cell? ⟨B, 5, none⟩ = some (.int .i64 x5) ∧ W9.cell? ⟨B, 6, none⟩ = some (.int .i64 x6) ∧ W9.cell? ⟨B, 7, none⟩ = some (.string ⟨xc.toArray⟩))) := fun W9 hW => ⟨HP1.out W9 (ext_trans HBW.out (ext_trans HBD.out hW)), ⟨(XD.out.below hW).cell 0 rfl, (XD.out.below hW).cell 1 rfl, (XD.out.below hW).cell 2 rfl, (XD.out.below hW).cell 3 rfl, (XD.out.below hW).cell 4 rfl, (XD.out.below hW).cell 5 rfl, (XD.out.below hW).cell 6 rfl, (XD.out.below hW).cell 7 rfl⟩⟩
                                clear HP1
                                as_aux_lemma =>
                                  refine region_seqI (S := fun W9 => Below w10.drew.heap.size w10.drew W9) [(true, 0), (true, 1), (true, 2), (true, 3), (true, 4), (true, 5), (true, 6), (true, 7), (true, 8), (false, 9), (true, 10), (true, 11), (true, 12)] (by kernel_rfl) (by kernel_rfl) rfl (by kernel_rfl) (Below.refl _ _) ?_
                                  generalize w10.drew = wd at XD HBD HCE HVD ⊢
                                  simp only [seqOps, List.getD_cons_zero, List.getD_cons_succ]
                                  refine seqI_take (v := .int .i64 i) rfl (fun W9 hW => by clear hW; go_simp) (fun _ _ _ h => h) ?_
                                  simp only [Act.put, List.setIfInBounds_toArray, List.set_cons_zero, List.set_cons_succ]
                                  refine seqI_take (v := .bool true) rfl (fun W9 hW => by clear hW; go_simp; exact HIP.out) (fun _ _ _ h => h) ?_
                                  simp only [Act.put, List.setIfInBounds_toArray, List.set_cons_zero, List.set_cons_succ]
                                  refine seqI_take (v := .bool true) rfl (fun W9 hW => by clear hW; go_simp) (fun _ _ _ h => h) ?_
                                  simp only [Act.put, List.setIfInBounds_toArray, List.set_cons_zero, List.set_cons_succ]
                                  refine seqI_take (v := .slice (some ⟨g, 0, none⟩) n cap) rfl (fun W9 hW => by clear hW; go_simp) (fun _ _ _ h => h) ?_
                                  simp only [Act.put, List.setIfInBounds_toArray, List.set_cons_zero, List.set_cons_succ]
                                  refine seqI_take (v := .int .i64 i) rfl (fun W9 hW => by clear hW; go_simp) (fun _ _ _ h => h) ?_
                                  simp only [Act.put, List.setIfInBounds_toArray, List.set_cons_zero, List.set_cons_succ]
                                  refine seqI_take (v := .int .i64 i1) rfl (fun W9 hW => by clear hW; go_simp) (fun _ _ _ h => h) ?_
                                  simp only [Act.put, List.setIfInBounds_toArray, List.set_cons_zero, List.set_cons_succ]
                                  refine seqI_take (v := .pointer (some ⟨g, i1 * 8, none⟩)) rfl (fun W9 hW => by clear hW; go_simp) (fun _ _ _ h => h) ?_
                                  simp only [Act.put, List.setIfInBounds_toArray, List.set_cons_zero, List.set_cons_succ]
                                  refine seqI_take (v := .agg #[.string z0, .string z1, .string z2, .int .i64 z3, .int .i64 z4, .int .i64 z5, .int .i64 z6, .string z7]) rfl (fun W9 hW => by obtain ⟨⟨p0, p1, p2, p3, p4, p5, p6, p7⟩, ⟨q0, q1, q2, q3, q4, q5, q6, q7⟩⟩ := HCE.out W9 hW; clear hW; go_simp) (fun _ _ _ h => h) ?_
                                  simp only [Act.put, List.setIfInBounds_toArray, List.set_cons_zero, List.set_cons_succ]
                                  refine seqI_take (v := .agg #[.string ⟨xi.toArray⟩, .string b1, .string b2, .int .i64 x3, .int .i64 x4, .int .i64 x5, .int .i64 x6, .string ⟨xc.toArray⟩]) rfl (fun W9 hW => by obtain ⟨⟨p0, p1, p2, p3, p4, p5, p6, p7⟩, ⟨q0, q1, q2, q3, q4, q5, q6, q7⟩⟩ := HCE.out W9 hW; clear hW; go_simp) (fun _ _ _ h => h) ?_
                                  simp only [Act.put, List.setIfInBounds_toArray, List.set_cons_zero, List.set_cons_succ]
                                  refine seqI_call _ _ rfl (by go_simp) (HC2.out wd) ?_
                                  rintro e w9 ⟨rfl, hb⟩
                                  have HV9 := Lib.hid (ext_trans HVD.out hb)
                                  refine ⟨_, rfl, hb, ?_⟩
                                  simp only [Act.put, List.setIfInBounds_toArray, List.set_cons_zero, List.set_cons_succ]
                                  clear hb HCE XD HBD HC2 HVD
                                  by_cases hr0 : r < 0
                                  case neg =>
                                    have hr1 : 0 ≤ r := by omega
                                    have HEE : Hid (¬ ∀ i1, i = i1 + 1 → recCmp (l.getD i1 default) x < 0) := fun h => absurd (h i1 HI1.out) (by rw [← HR.out]; exact hr0)
                                    refine seqI_take (v := .bool true) rfl (fun W9 hW => by clear hW; go_simp) (fun _ _ _ h => h) ?_
                                    simp only [Act.put, List.setIfInBounds_toArray, List.set_cons_zero, List.set_cons_succ]
                                    refine seqI_take (v := .bool true) rfl (fun W9 hW => by clear hW; go_simp) (fun _ _ _ h => h) ?_
                                    simp only [Act.put, List.setIfInBounds_toArray, List.set_cons_zero, List.set_cons_succ]
                                    refine seqI_take (v := .bool true) rfl (fun W9 hW => by clear hW; go_simp) (fun _ _ _ h => h) ?_
                                    simp only [Act.put, List.setIfInBounds_toArray, List.set_cons_zero, List.set_cons_succ]
                                    refine seqI_nil ?_
                                    go_wp2_with fail
                                    go_meet
                                    exact ⟨true, rfl, (fun h => by cases h), (fun h => absurd h HEE.out), HV9.out⟩
                                  have hr1 : ¬ (0 ≤ r) := by omega
                                  have HEE : Hid (∀ i2, i = i2 + 1 → recCmp (l.getD i2 default) x < 0) := fun i2 h => by
                                    have e : i2 = i1 := by have := HI1.out; omega
                                    rw [e, ← HR.out]; exact hr0
                                  refine seqI_take (v := .bool false) rfl (fun W9 hW => by clear hW; go_simp) (fun _ _ _ h => h) ?_
                                  simp only [Act.put, List.setIfInBounds_toArray, List.set_cons_zero, List.set_cons_succ]
                                  refine seqI_take (v := .bool false) rfl (fun W9 hW => by clear hW; go_simp) (fun _ _ _ h => h) ?_
                                  simp only [Act.put, List.setIfInBounds_toArray, List.set_cons_zero, List.set_cons_succ]
                                  refine seqI_take (v := .bool false) rfl (fun W9 hW => by clear hW; go_simp) (fun _ _ _ h => h) ?_
                                  simp only [Act.put, List.setIfInBounds_toArray, List.set_cons_zero, List.set_cons_succ]
                                  refine seqI_nil ?_
                                  go_wp2_with fail
                                  go_meet
                                  exact ⟨false, rfl, (fun _ => HEE.out), (fun _ => rfl), HV9.out⟩
                              case rest =>
                                obtain ⟨c, rfl, hc, hc2, hV⟩ := hcut
                                obtain ⟨w11, rfl⟩ : ∃ x : World, x = wc := ⟨_, rfl⟩
                                have X11 := Lib.hid (X10.out.below hV.out)
                                have HB11 := Lib.hid (ext_trans HB10.out hV.out)
                                clear hV X10 HB10
                                have c0 := X11.out.cell 0 rfl
                                have c1 := X11.out.cell 1 rfl
                                have c2 := X11.out.cell 2 rfl
                                have c3 := X11.out.cell 3 rfl
                                have c4 := X11.out.cell 4 rfl
                                have c5 := X11.out.cell 5 rfl
                                have c6 := X11.out.cell 6 rfl
                                have c7 := X11.out.cell 7 rfl
                                obtain rfl : c = false := hc2.out (fun i1 h => by
                                  rw [recCmp_neg, HX.out, h]
                                  exact HOK.out.step i1 (by have := HN.out; omega))
                                clear hc hc2
                                have HS9 := Lib.hid (HSB.out.below HB11.out)
                                have hlook := HS9.out.look (x := xi) (by omega)
                                rw [HNI.out] at hlook
                                have hMs : w.heap.size ≤ M := hM0
                                have hwM : w.heap.size ≤ w11.heap.size := (ext_trans HBW.out HB11.out).size
                                as_aux_lemma =>
                                  go_wp2_with (first | (at_lookup; refine BigFrame.wpList_want (by rfl) (fun K' hK' => ?_); refine wp_lookR _ (.tmp 89) (.tmp 91) rfl M rfl ⟨xi.toArray⟩ rfl (.bool false) hlook (hK' _ _ ?_)) | (at_mapUpdate; refine wpList_sb _ rfl (.tmp 94) (.tmp 96) (.const (.bool true)) rfl M i _ rfl HS9.out (by simp only [maxLen]; omega) xi rfl rfl (by omega) ?_; intro wu hsb hgr; have HSU := Lib.hid hsb; have HGU := Lib.hid hgr; clear hsb hgr; refine Hid.out ?_))
                                  refine Lib.hid ?_
                                  rw [HNI.out] at HSU
                                  have HSU2 : Hid (SbAt wu M (i + 1) ((l.take (i + 1)).map Vrec.id)) := by
                                    show SbAt _ _ _ _
                                    rw [HTK.out]
                                    exact HSU.out
                                  have HBU : Hid (Below w.heap.size w wu) := (ext_trans HBW.out HB11.out).trans (gb_lowR HGU.out hwM hMs)
                                  clear hlook HS9 HSU HGU X11 HB11 c0 c1 c2 c3 c4 c5 c6 c7
                                  as_aux_lemma =>
                                    go_wp2_with fail
                                    go_roundw
                                    case rel => exact ⟨i + 1, by omega, by go_num, rfl, HSU2.out, HBU.out⟩
                                    case measure => simp [intOf]; omega
end Go.Proofs.YtleagenhnchjdaaGreatDoor
