/- What is proved here: lemmas and contracts for the statement, put together out of smaller texts (RecDrw, RecSrc, RecMrg). No condition beyond those stated. -/
import Derived.Test.YtleagenhnchjdaaGreatDoorRaPkF
import Derived.Test.YtleagenhnchjdaaGreatDoorRaPkC
import Derived.Test.YtleagenhnchjdaaGreatDoorRaPkD
import Derived.Laws.Runes
import Derived.Deep.DeepCutAuto
import Derived.Test.YtleagenhnchjdaaGreatDoorShelfRec
import Derived.Test.YtleagenhnchjdaaGreatDoorRaPkB
import Derived.Test.YtleagenhnchjdaaGreatDoorRaPkA
import Derived.Lib.SliceRun
import Derived.Laws.StructEq
set_option linter.unusedVariables false
set_option linter.unusedSimpArgs false
namespace Go.Proofs.YtleagenhnchjdaaGreatDoor
open Go.RowKit Go.Sort Go.Lib

def RecsP (S k m : Nat) (w : World) (e : Ending) (w' : World) : Prop := ∃ v l, e = .returned v ∧ VrecRow w' w.heap.size v l ∧ l.length ≤ m ∧ (∀ a ∈ l, RecB a) ∧ StreamOk w' S k ∧ Keeps S w w'
theorem rune_str (c : Int) (h0 : 0 ≤ c) (h1 : c < 128) : ∃ p : List UInt8, (⟨#[114]⟩ : ByteArray) ++ Utf8.encode c = ⟨p.toArray⟩ ∧ p.length ≤ 10 := by
  refine ⟨((⟨#[114]⟩ : ByteArray) ++ Utf8.encode c).data.toList, rfl, ?_⟩
  have e : (Utf8.encode c).size = 1 := by
    unfold Utf8.encode
    have hv : Utf8.valid c = true := by unfold Utf8.valid; simp; omega
    simp only [hv, if_true, show c.toNat < 128 by omega]
    rfl
  have : ((⟨#[114]⟩ : ByteArray) ++ Utf8.encode c).size = 2 := by rw [ByteArray.size_append, e]; rfl
  have h2 : ((⟨#[114]⟩ : ByteArray) ++ Utf8.encode c).data.toList.length = 2 := this
  omega
theorem cat_rune (e : Operand → Value) (he : ∀ v, e (.const v) = v) (o : Oper) (w : World) (c : Int) (p : List UInt8) (hp : (⟨#[114]⟩ : ByteArray) ++ Utf8.encode c = ⟨p.toArray⟩) (hl : p.length ≤ 10) (ho : o.op = .binOp .add 9 (.const (.string ⟨#[114]⟩)) (.tmp 26) 9) (h : e (.tmp 26) = .string (Utf8.encode c)) :
   (execOp e o).run Tryz.prog w = .ok (.value (.string ⟨p.toArray⟩)) w := by
  have hs : ((⟨#[114]⟩ : ByteArray) ++ Utf8.encode c).size ≤ 10 := by rw [hp]; show p.toArray.size ≤ 10; simpa using hl
  rw [ByteArray.size_append] at hs
  have h1 : (⟨#[114]⟩ : ByteArray).size = 1 := rfl
  unfold execOp
  rw [ho]
  simp only [he, h]
  rw [← hp]
  generalize Utf8.encode c = u at hs
  go_simp
  omega
theorem build_rec (e : Operand → Value) (o : Oper) (w : World) (p0 : ByteArray) (p1 : ByteArray) (p2 : ByteArray) (z3 : Int) (z4 : Int) (z6 : Int) (p7 : ByteArray) (ho : o.op = .build 50 #[(0, .tmp 27), (1, .tmp 30), (2, .tmp 33), (3, .tmp 34), (4, .tmp 37), (6, .tmp 40), (7, .tmp 43)]) (h0 : e (.tmp 27) = .string p0) (h1 : e (.tmp 30) = .string p1) (h2 : e (.tmp 33) = .string p2) (h3 : e (.tmp 34) = .int .i64 z3) (h4 : e (.tmp 37) = .int .i64 z4) (h6 : e (.tmp 40) = .int .i64 z6) (h7 : e (.tmp 43) = .string p7) :
   (execOp e o).run Tryz.prog w = .ok (.value (.agg #[.string p0, .string p1, .string p2, .int .i64 z3, .int .i64 z4, .int .i64 0, .int .i64 z6, .string p7])) w := by
  unfold execOp
  rw [ho]
  simp only [List.map_toArray, List.map_cons, List.map_nil, h0, h1, h2, h3, h4, h6, h7]
  kernel_rfl
theorem bl_rcd0 (e : Operand → Value) (he : ∀ v, e (.const v) = v) (o : Oper) (w : World)  (z0 : Int) (z1 : Int) (z2 : Int) (z3 : Int) (z4 : Int) (z5 : Int) (ho : o.op = .buildSlice 22 6 #[(0, .const (.int .i64 z0)), (1, .const (.int .i64 z1)), (2, .const (.int .i64 z2)), (3, .const (.int .i64 z3)), (4, .const (.int .i64 z4)), (5, .const (.int .i64 z5))])  :
   (execOp e o).run Tryz.prog w = .ok (.value (.slice (some ⟨w.heap.size, 0, none⟩) 6 6)) (w.alloc (.cells #[.int .i64 z0, .int .i64 z1, .int .i64 z2, .int .i64 z3, .int .i64 z4, .int .i64 z5] 3)) := by
  unfold execOp
  rw [ho]
  simp only [List.map_toArray, List.map_cons, List.map_nil, he]
  kernel_rfl
theorem bl_rcd1 (e : Operand → Value) (he : ∀ v, e (.const v) = v) (o : Oper) (w : World)  (p0 : ByteArray) (p1 : ByteArray) (p2 : ByteArray) (p3 : ByteArray) (p4 : ByteArray) (ho : o.op = .buildSlice 27 5 #[(0, .const (.string p0)), (1, .const (.string p1)), (2, .const (.string p2)), (3, .const (.string p3)), (4, .const (.string p4))])  :
   (execOp e o).run Tryz.prog w = .ok (.value (.slice (some ⟨w.heap.size, 0, none⟩) 5 5)) (w.alloc (.cells #[.string p0, .string p1, .string p2, .string p3, .string p4] 9)) := by
  unfold execOp
  rw [ho]
  simp only [List.map_toArray, List.map_cons, List.map_nil, he]
  kernel_rfl
theorem bl_rcd2 (e : Operand → Value) (he : ∀ v, e (.const v) = v) (o : Oper) (w : World)  (z0 : Int) (z1 : Int) (ho : o.op = .buildSlice 22 2 #[(0, .const (.int .i64 z0)), (1, .const (.int .i64 z1))])  :
   (execOp e o).run Tryz.prog w = .ok (.value (.slice (some ⟨w.heap.size, 0, none⟩) 2 2)) (w.alloc (.cells #[.int .i64 z0, .int .i64 z1] 3)) := by
  unfold execOp
  rw [ho]
  simp only [List.map_toArray, List.map_cons, List.map_nil, he]
  kernel_rfl
theorem bl_rcd3 (e : Operand → Value) (he : ∀ v, e (.const v) = v) (o : Oper) (w : World)  (p0 : ByteArray) (p1 : ByteArray) (ho : o.op = .buildSlice 27 2 #[(0, .const (.string p0)), (1, .const (.string p1))])  :
   (execOp e o).run Tryz.prog w = .ok (.value (.slice (some ⟨w.heap.size, 0, none⟩) 2 2)) (w.alloc (.cells #[.string p0, .string p1] 9)) := by
  unfold execOp
  rw [ho]
  simp only [List.map_toArray, List.map_cons, List.map_nil, he]
  kernel_rfl
theorem bl_rcd4 (e : Operand → Value) (he : ∀ v, e (.const v) = v) (o : Oper) (w : World)  (p0 : ByteArray) (p1 : ByteArray) (p2 : ByteArray) (ho : o.op = .buildSlice 27 3 #[(0, .const (.string p0)), (1, .const (.string p1)), (2, .const (.string p2))])  :
   (execOp e o).run Tryz.prog w = .ok (.value (.slice (some ⟨w.heap.size, 0, none⟩) 3 3)) (w.alloc (.cells #[.string p0, .string p1, .string p2] 9)) := by
  unfold execOp
  rw [ho]
  simp only [List.map_toArray, List.map_cons, List.map_nil, he]
  kernel_rfl
theorem bl_rcd5 (e : Operand → Value) (he : ∀ v, e (.const v) = v) (o : Oper) (w : World) (i0 : Nat) (p0_0 : ByteArray) (p0_1 : ByteArray) (p0_2 : ByteArray) (z0_3 : Int) (z0_4 : Int) (z0_5 : Int) (z0_6 : Int) (p0_7 : ByteArray) (ho : o.op = .buildSlice 33 1 #[(0, .tmp i0)]) (h0 : e (.tmp i0) = .agg #[.string p0_0, .string p0_1, .string p0_2, .int .i64 z0_3, .int .i64 z0_4, .int .i64 z0_5, .int .i64 z0_6, .string p0_7]) :
   (execOp e o).run Tryz.prog w = .ok (.value (.slice (some ⟨w.heap.size, 0, none⟩) 1 1)) (w.alloc (.cells #[.string p0_0, .string p0_1, .string p0_2, .int .i64 z0_3, .int .i64 z0_4, .int .i64 z0_5, .int .i64 z0_6, .string p0_7] 50)) := by
  unfold execOp
  rw [ho]
  simp only [List.map_toArray, List.map_cons, List.map_nil, h0]
  kernel_rfl
theorem bl_phn0 (e : Operand → Value) (he : ∀ v, e (.const v) = v) (o : Oper) (w : World)  (p0 : ByteArray) (p1 : ByteArray) (p2 : ByteArray) (p3 : ByteArray) (p4 : ByteArray) (p5 : ByteArray) (ho : o.op = .buildSlice 27 6 #[(0, .const (.string p0)), (1, .const (.string p1)), (2, .const (.string p2)), (3, .const (.string p3)), (4, .const (.string p4)), (5, .const (.string p5))])  :
   (execOp e o).run Tryz.prog w = .ok (.value (.slice (some ⟨w.heap.size, 0, none⟩) 6 6)) (w.alloc (.cells #[.string p0, .string p1, .string p2, .string p3, .string p4, .string p5] 9)) := by
  unfold execOp
  rw [ho]
  simp only [List.map_toArray, List.map_cons, List.map_nil, he]
  kernel_rfl
theorem bl_phn1 (e : Operand → Value) (he : ∀ v, e (.const v) = v) (o : Oper) (w : World)  (p0 : ByteArray) (p1 : ByteArray) (p2 : ByteArray) (p3 : ByteArray) (p4 : ByteArray) (p5 : ByteArray) (p6 : ByteArray) (p7 : ByteArray) (p8 : ByteArray) (ho : o.op = .buildSlice 27 9 #[(0, .const (.string p0)), (1, .const (.string p1)), (2, .const (.string p2)), (3, .const (.string p3)), (4, .const (.string p4)), (5, .const (.string p5)), (6, .const (.string p6)), (7, .const (.string p7)), (8, .const (.string p8))])  :
   (execOp e o).run Tryz.prog w = .ok (.value (.slice (some ⟨w.heap.size, 0, none⟩) 9 9)) (w.alloc (.cells #[.string p0, .string p1, .string p2, .string p3, .string p4, .string p5, .string p6, .string p7, .string p8] 9)) := by
  unfold execOp
  rw [ho]
  simp only [List.map_toArray, List.map_cons, List.map_nil, he]
  kernel_rfl
def PhoneP (S k : Nat) (w : World) (e : Ending) (w' : World) : Prop := ∃ s : List UInt8, e = .returned (.string ⟨s.toArray⟩) ∧ s.length ≤ 20 ∧ StreamOk w' S k ∧ Keeps S w w'
set_option maxRecDepth 100000 in
theorem phone_any (S k : Nat) (w : World) (h : StreamOk w S k) (hk : k ≤ 90000000) : Calls Tryz.prog 68 #[.pointer (some ⟨S, 0, none⟩)] w (PhoneP S (k + 2) w) := by
  have HS0 := Lib.hid h
  clear h
  go_enter Tryz.func68, Tryz.ntmps68
  go_wp2_with fail
  refine (flip_any S k 25 _ HS0.out (by omega) (by omega) (by omega)).mono ?_
  rintro e w1 ⟨fb, rfl, hst, hk'⟩
  have HS1 := Lib.hid hst
  have HK1 := Lib.hid hk'
  clear hst hk' HS0
  cases fb
  case true =>
    go_wp2_with ((refine wpList_val rfl (bl_phn0 _ (fun _ => rfl) _ _  ⟨#[]⟩ ⟨#[43, 49, 50, 51]⟩ ⟨#[43, 48, 49, 50, 51]⟩ ⟨#[49, 50, 51, 52]⟩ ⟨#[43, 49, 50, 51, 52, 53, 54, 55, 56, 57, 48, 49, 50, 51, 52, 53, 54]⟩ ⟨#[43, 49, 50, 97, 52]⟩ rfl) ?_))
    refine (some_lit S (k + 1) [[], [43, 49, 50, 51], [43, 48, 49, 50, 51], [49, 50, 51, 52], [43, 49, 50, 51, 52, 53, 54, 55, 56, 57, 48, 49, 50, 51, 52, 53, 54], [43, 49, 50, 97, 52]] (fun s => s.length ≤ 20) _ _ _ HS1.out (by omega) rfl rfl (by decide) (by decide) (by decide)).mono ?_
    rintro e w2 ⟨s, rfl, hs, hst, hk2⟩
    have HE := Lib.hid (hst.mono (k' := k + 2) (by omega))
    have HK2 := Lib.hid (HK1.out.trans hk2)
    have HL := Lib.hid hs
    clear hst hk2 hs HS1 HK1
    go_wp2_with fail
    go_ret
    exact ⟨s, rfl, HL.out, HE.out, HK2.out⟩
  go_wp2_with ((refine wpList_val rfl (bl_phn1 _ (fun _ => rfl) _ _  ⟨#[43, 49, 50, 48, 48]⟩ ⟨#[43, 49, 50, 48, 48]⟩ ⟨#[43, 49, 50, 48, 49]⟩ ⟨#[43, 49, 50, 48, 50]⟩ ⟨#[43, 57, 57, 57, 57]⟩ ⟨#[43, 52, 51, 49, 50]⟩ ⟨#[43, 52, 57, 51, 48, 49]⟩ ⟨#[43, 52, 57, 51, 48, 50]⟩ ⟨#[43, 53, 53, 49, 50]⟩ rfl) ?_))
  refine (some_lit S (k + 1) [[43, 49, 50, 48, 48], [43, 49, 50, 48, 48], [43, 49, 50, 48, 49], [43, 49, 50, 48, 50], [43, 57, 57, 57, 57], [43, 52, 51, 49, 50], [43, 52, 57, 51, 48, 49], [43, 52, 57, 51, 48, 50], [43, 53, 53, 49, 50]] (fun s => s.length ≤ 20) _ _ _ HS1.out (by omega) rfl rfl (by decide) (by decide) (by decide)).mono ?_
  rintro e w2 ⟨s, rfl, hs, hst, hk2⟩
  have HE := Lib.hid (hst.mono (k' := k + 2) (by omega))
  have HK2 := Lib.hid (HK1.out.trans hk2)
  have HL := Lib.hid hs
  clear hst hk2 hs HS1 HK1
  go_wp2_with fail
  go_ret
  exact ⟨s, rfl, HL.out, HE.out, HK2.out⟩
set_option maxRecDepth 100000 in
set_option maxHeartbeats 40000000 in
theorem recs_any (S k m : Nat) (w : World) (h : StreamOk w S k) (hk : k ≤ 900000) (hm : m ≤ 12) : Calls Tryz.prog 32 #[.pointer (some ⟨S, 0, none⟩), .int .i64 m] w (RecsP S (k + 16 * m) m w) := by
  obtain ⟨i0, hi0, hz0, hz1, hz2⟩ := info_parts Tryz.recInfo
  have hSw := h.lt
  have HS0 := Lib.hid h
  clear h
  go_enter Tryz.func32, Tryz.ntmps32
  go_wp2_with fail
  go_loopw [5, 6, 10] (fun vo av it wr => ∃ (i : Nat) (L : List Vrec) (z : Int), i ≤ m ∧ it = .int .i64 i ∧ av = .int .i64 z ∧ 0 ≤ z ∧ z ≤ 1296000000 * i ∧ L.length ≤ i ∧ Hid (∀ a ∈ L, RecB a) ∧ Hid (VrecRow wr w.heap.size vo L) ∧ Hid (StreamOk wr S (k + 16 * i)) ∧ Hid (Keeps S w wr)) (fun _ _ it _ => m - (intOf it).toNat)
  case atStart => exact ⟨0, [], 0, Nat.zero_le _, rfl, rfl, by omega, by omega, Nat.le_refl _, (fun a ha => by cases ha), World.ownsRow_nil _ _ _ _, HS0.out, Keeps.refl _ _⟩
  case round =>
    clear HS0
    obtain ⟨i, L, z, hi, rfl, rfl, hz0', hz1', hLl, HA, O1, HS1, HK1⟩ := hrel
    obtain ⟨vo, rfl⟩ : ∃ x : Value, x = u5 := ⟨_, rfl⟩
    by_cases hlt : i < m
    case neg =>
      obtain rfl : i = m := by omega
      have hin : ¬ ((i : Int) < (i : Int)) := by omega
      have HST := Lib.hid (stR_any wr w.heap.size vo L O1.out (by omega))
      have HV := Lib.hid (fun b (hb : vo.ownBlock = some b) => (World.ownsRow.lt O1.out b hb).1)
      clear O1
      as_aux_lemma =>
        go_wp2_with fail
        refine HST.out.mono ?_
        rintro e w2 ⟨rfl, hr, hg⟩
        have HE : Hid (RecsP S (k + 16 * i) i w (.returned vo) w2) := ⟨vo, _, rfl, hr, by rw [insL_len]; exact hLl, fun a ha => HA.out a (insL_mem _ _ ha), HS1.out.upto ⟨hg.os, hg.tape, hg.output, hg.size, fun j hj => hg.block j (by have := HS1.out.lt; omega) (fun e => by have := HV.out j e.symm; omega)⟩, ⟨hg.os.trans HK1.out.os, hg.tape.trans HK1.out.tape, hg.output.trans HK1.out.output, Nat.le_trans HK1.out.size hg.size, fun j hj hjS => (hg.block j (Nat.lt_of_lt_of_le hj HK1.out.size) (fun e => by have := HV.out j e.symm; omega)).trans (HK1.out.block j hj hjS)⟩⟩
        clear hr hg HS1 HK1 HST HA HV
        as_aux_lemma =>
          go_wp2_with fail
          go_ret
          exact HE.out
    have hin : (i : Int) < (m : Int) := by omega
    obtain ⟨w1, hw1⟩ : ∃ x : World, x = wr := ⟨_, rfl⟩
    subst hw1
    as_aux_lemma =>
      go_wp2_with ((refine wpList_val rfl (bl_rcd0 _ (fun _ => rfl) _ _  0 10 100 1000 60000 1296000000 rfl) ?_))
      refine (pick_lit S (k + 16 * i + 0) [0, 10, 100, 1000, 60000, 1296000000] (fun x => 0 ≤ x ∧ x ≤ 1296000000) _ _ _ HS1.out (by omega) rfl rfl (by decide) (by decide) (by decide)).mono ?_
      rintro e w2 ⟨p, rfl, ⟨p0, p1⟩, hst, hk'⟩
      have HS2 := Lib.hid (hst.mono (k' := k + 16 * i + 1) (by omega))
      have HK2 := Lib.hid (HK1.out.trans hk')
      have O2 := Lib.hid (own_keeps O1.out hk' hSw)
      clear hst hk' HS1 HK1 O1
      obtain ⟨z2, hz2⟩ : ∃ q, q = z + p := ⟨_, rfl⟩
      have wa : IntKind.i64.wrap (z + p) = z2 := by rw [hz2]; exact IntWalk.i64_in _ (by omega)
      have z20 : 0 ≤ z2 := by omega
      have z21 : z2 ≤ 1296000000 * (i + 1) := by omega
      clear hz2
      have w7 : IntKind.i64.wrap ((i : Int) * 7) = (i : Int) * 7 := IntWalk.i64_in _ (by omega)
      as_aux_lemma =>
        go_wp2_with fail
        refine (next_any S (k + 16 * i + 1) 3 _ HS2.out (by omega) (by omega) (by omega)).mono ?_
        rintro e w3 ⟨q, rfl, q0, q1, hst, hk'⟩
        have HS3 := Lib.hid (hst.mono (k' := k + 16 * i + 2) (by omega))
        have HK3 := Lib.hid (HK2.out.trans hk')
        have O3 := Lib.hid (own_keeps O2.out hk' hSw)
        clear hst hk' HS2 HK2 O2
        obtain ⟨y, hy⟩ : ∃ y, y = (i : Int) * 7 + q := ⟨_, rfl⟩
        have w8 : IntKind.i64.wrap ((i : Int) * 7 + q) = y := by rw [hy]; exact IntWalk.i64_in _ (by omega)
        have y0 : 0 ≤ y := by omega
        clear hy
        obtain ⟨rs, hrs, hrl⟩ := rune_str (97 + y % 26) (by omega) (by omega)
        have HRL := Lib.hid hrl
        have HRS := Lib.hid hrs
        clear hrs hrl
        as_aux_lemma =>
          go_wp2_with (first | (refine wpList_val rfl (cat_rune _ (fun _ => rfl) _ _ _ rs HRS.out HRL.out rfl rfl) ?_) | (refine wpList_val rfl (bl_rcd1 _ (fun _ => rfl) _ _  ⟨#[43, 49, 50, 48, 48]⟩ ⟨#[43, 49, 50, 48, 48]⟩ ⟨#[43, 49, 50, 48, 49]⟩ ⟨#[43, 49, 50, 48, 50]⟩ ⟨#[43, 57, 57, 57, 57]⟩ rfl) ?_))
          refine (some_lit S (k + 16 * i + 2) [[43, 49, 50, 48, 48], [43, 49, 50, 48, 48], [43, 49, 50, 48, 49], [43, 49, 50, 48, 50], [43, 57, 57, 57, 57]] (fun s => s.length ≤ 20) _ _ _ HS3.out (by omega) rfl rfl (by decide) (by decide) (by decide)).mono ?_
          rintro e w4 ⟨s1, rfl, hs1, hst, hk'⟩
          have HLs1 := Lib.hid hs1
          clear hs1
          have HS4 := Lib.hid (hst.mono (k' := k + 16 * i + 3) (by omega))
          have HK4 := Lib.hid (HK3.out.trans hk')
          have O4 := Lib.hid (own_keeps O3.out hk' hSw)
          clear hst hk' HS3 HK3 O3
          as_aux_lemma =>
            go_wp2_with ((refine wpList_val rfl (bl_rcd1 _ (fun _ => rfl) _ _  ⟨#[43, 52, 51, 49, 50]⟩ ⟨#[43, 52, 57, 51, 48, 49]⟩ ⟨#[43, 52, 57, 51, 48, 50]⟩ ⟨#[43, 53, 53, 49, 50]⟩ ⟨#[43, 49, 50, 48, 48]⟩ rfl) ?_))
            refine (some_lit S (k + 16 * i + 3) [[43, 52, 51, 49, 50], [43, 52, 57, 51, 48, 49], [43, 52, 57, 51, 48, 50], [43, 53, 53, 49, 50], [43, 49, 50, 48, 48]] (fun s => s.length ≤ 20) _ _ _ HS4.out (by omega) rfl rfl (by decide) (by decide) (by decide)).mono ?_
            rintro e w5 ⟨s2, rfl, hs2, hst, hk'⟩
            have HLs2 := Lib.hid hs2
            clear hs2
            have HS5 := Lib.hid (hst.mono (k' := k + 16 * i + 4) (by omega))
            have HK5 := Lib.hid (HK4.out.trans hk')
            have O5 := Lib.hid (own_keeps O4.out hk' hSw)
            clear hst hk' HS4 HK4 O4
            as_aux_lemma =>
              go_wp2_with ((refine wpList_val rfl (bl_rcd2 _ (fun _ => rfl) _ _  0 5000 rfl) ?_))
              refine (pick_lit S (k + 16 * i + 4) [0, 5000] (fun x => 0 ≤ x ∧ x ≤ 5000) _ _ _ HS5.out (by omega) rfl rfl (by decide) (by decide) (by decide)).mono ?_
              rintro e w6 ⟨rg, rfl, ⟨rg0, rg1⟩, hst, hk'⟩
              have HS6 := Lib.hid (hst.mono (k' := k + 16 * i + 5) (by omega))
              have HK6 := Lib.hid (HK5.out.trans hk')
              have O6 := Lib.hid (own_keeps O5.out hk' hSw)
              clear hst hk' HS5 HK5 O5
              as_aux_lemma =>
                go_wp2_with ((refine wpList_val rfl (bl_rcd0 _ (fun _ => rfl) _ _  1 1 1 2 3 4 rfl) ?_))
                refine (pick_lit S (k + 16 * i + 5) [1, 1, 1, 2, 3, 4] (fun x => 1 ≤ x ∧ x ≤ 4) _ _ _ HS6.out (by omega) rfl rfl (by decide) (by decide) (by decide)).mono ?_
                rintro e w7 ⟨hw, rfl, ⟨hw0, hw1⟩, hst, hk'⟩
                have HS7 := Lib.hid (hst.mono (k' := k + 16 * i + 6) (by omega))
                have HK7 := Lib.hid (HK6.out.trans hk')
                have O7 := Lib.hid (own_keeps O6.out hk' hSw)
                clear hst hk' HS6 HK6 O6
                as_aux_lemma =>
                  go_wp2_with ((refine wpList_val rfl (bl_rcd3 _ (fun _ => rfl) _ _  ⟨#[]⟩ ⟨#[119, 101, 115, 116]⟩ rfl) ?_))
                  refine (some_lit S (k + 16 * i + 6) [[], [119, 101, 115, 116]] (fun s => s ∈ carsB) _ _ _ HS7.out (by omega) rfl rfl (by decide) (by decide) (by decide)).mono ?_
                  rintro e w8 ⟨s7, rfl, hs7, hst, hk'⟩
                  have HLs7 := Lib.hid hs7
                  clear hs7
                  have HS8 := Lib.hid (hst.mono (k' := k + 16 * i + 7) (by omega))
                  have HK8 := Lib.hid (HK7.out.trans hk')
                  have O8 := Lib.hid (own_keeps O7.out hk' hSw)
                  clear hst hk' HS7 HK7 O7
                  have hk' : Keeps S w8 (w8.alloc (.cells #[.string ⟨rs.toArray⟩, .string ⟨s1.toArray⟩, .string ⟨s2.toArray⟩, .int .i64 z2, .int .i64 rg, .int .i64 0, .int .i64 hw, .string ⟨s7.toArray⟩] 50)) := (Keeps.refl _ _).alloc _
                  have HS9 : Hid (StreamOk (w8.alloc (.cells #[.string ⟨rs.toArray⟩, .string ⟨s1.toArray⟩, .string ⟨s2.toArray⟩, .int .i64 z2, .int .i64 rg, .int .i64 0, .int .i64 hw, .string ⟨s7.toArray⟩] 50)) S (k + 16 * i + 7)) := HS8.out.below (ext_alloc (Below.refl _ _))
                  have HK9 := Lib.hid (HK8.out.trans hk')
                  have O9 := Lib.hid (own_keeps O8.out hk' hSw)
                  have Q9 : Hid (Blk (w8.alloc (.cells #[.string ⟨rs.toArray⟩, .string ⟨s1.toArray⟩, .string ⟨s2.toArray⟩, .int .i64 z2, .int .i64 rg, .int .i64 0, .int .i64 hw, .string ⟨s7.toArray⟩] 50)) w8.heap.size [.string ⟨rs.toArray⟩, .string ⟨s1.toArray⟩, .string ⟨s2.toArray⟩, .int .i64 z2, .int .i64 rg, .int .i64 0, .int .i64 hw, .string ⟨s7.toArray⟩] 50) := Blk.new _ _ _
                  have HNQ : Hid (vo.ownBlock ≠ some w8.heap.size) := own_before O8.out (Nat.le_refl _)
                  have hwQ : w.heap.size ≤ w8.heap.size := HK8.out.size
                  clear hk' HS8 HK8 O8
                  as_aux_lemma =>
                    go_upto_region 8 with (refine wpList_val rfl (build_rec _ _ _ ⟨rs.toArray⟩ ⟨s1.toArray⟩ ⟨s2.toArray⟩ z2 rg hw ⟨s7.toArray⟩ rfl rfl rfl rfl rfl rfl rfl rfl) ?_)
                    generalize (w8.alloc (.cells #[.string ⟨rs.toArray⟩, .string ⟨s1.toArray⟩, .string ⟨s2.toArray⟩, .int .i64 z2, .int .i64 rg, .int .i64 0, .int .i64 hw, .string ⟨s7.toArray⟩] 50)) = w9 at HS9 HK9 O9 Q9 ⊢
                    obtain ⟨Q, hQ⟩ : ∃ Q, Q = w8.heap.size := ⟨_, rfl⟩
                    rw [← hQ] at Q9 HNQ hwQ ⊢
                    have hSQ : S < Q := by omega
                    have hQS : Q ≠ S := by omega
                    clear hQ
                    have c6 := Q9.out.cell 6 rfl
                    as_aux_lemma =>
                      go_upto_if 47 with (fail)
                      clear c6
                      go_cut [] (fun wx => ∃ tk : Int, 0 ≤ tk ∧ tk ≤ 90000 ∧ Hid (StreamOk wx S (k + 16 * i + 8)) ∧ Hid (Keeps S w wx) ∧ Hid (VrecRow wx w.heap.size vo L) ∧ Hid (Blk wx Q [.string ⟨rs.toArray⟩, .string ⟨s1.toArray⟩, .string ⟨s2.toArray⟩, .int .i64 z2, .int .i64 rg, .int .i64 tk, .int .i64 hw, .string ⟨s7.toArray⟩] 50))
                      case first =>
                        by_cases hh : hw = 1
                        case pos =>
                          have hhb : (hw == 1) = true := by simpa using hh
                          as_aux_lemma =>
                            go_wp2_with ((refine wpList_val rfl (bl_rcd0 _ (fun _ => rfl) _ _  1 5000 60000 60001 61500 90000 rfl) ?_))
                            refine (pick_lit S (k + 16 * i + 7) [1, 5000, 60000, 60001, 61500, 90000] (fun x => 0 ≤ x ∧ x ≤ 90000) _ _ _ HS9.out (by omega) rfl rfl (by decide) (by decide) (by decide)).mono ?_
                            rintro e w10 ⟨tk, rfl, ⟨tk0, tk1⟩, hst, hk'⟩
                            have HS10 := Lib.hid (hst.mono (k' := k + 16 * i + 8) (by omega))
                            have HK10 := Lib.hid (HK9.out.trans hk')
                            have O10 := Lib.hid (own_keeps O9.out hk' hSw)
                            have Q10 := Lib.hid (Q9.out.keeps hk' hQS)
                            clear hst hk' HS9 HK9 O9 Q9
                            have sc5 := Q10.out.cell 5 rfl
                            have sf5 := Q10.out.fr 5
                            have HS11 : Hid (StreamOk (w10.setCell ⟨Q, 5, none⟩ (.int .i64 tk)) S (k + 16 * i + 8)) := (stream_setQ HS10.out hSQ)
                            have HK11 : Hid (Keeps S w (w10.setCell ⟨Q, 5, none⟩ (.int .i64 tk))) := (HK10.out.setCell_new hwQ _)
                            have O11 : Hid (VrecRow (w10.setCell ⟨Q, 5, none⟩ (.int .i64 tk)) w.heap.size vo L) := (own_set1 O10.out HNQ.out)
                            have Q11 : Hid (Blk (w10.setCell ⟨Q, 5, none⟩ (.int .i64 tk)) Q [.string ⟨rs.toArray⟩, .string ⟨s1.toArray⟩, .string ⟨s2.toArray⟩, .int .i64 z2, .int .i64 rg, .int .i64 tk, .int .i64 hw, .string ⟨s7.toArray⟩] 50) := (Q10.out.put 5 _)
                            clear HS10 HK10 O10 Q10
                            as_aux_lemma =>
                              go_wp2_with fail
                              go_meet
                              exact ⟨tk, tk0, tk1, HS11.out, HK11.out, O11.out, Q11.out⟩
                        have hhb : (hw == 1) = false := by simpa using hh
                        as_aux_lemma =>
                          go_wp2_with fail
                          go_meet
                          exact ⟨0, by omega, by omega, HS9.out.mono (by omega), HK9.out, O9.out, Q9.out⟩
                      case rest =>
                        obtain ⟨tk, tk0, tk1, HS10, HK10, O10, Q10⟩ := hcut
                        obtain ⟨w10, rfl⟩ : ∃ x : World, x = wc := ⟨_, rfl⟩
                        clear HS9 HK9 O9 Q9
                        as_aux_lemma =>
                          go_wp2_with fail
                          refine (flip_any S (k + 16 * i + 8) 80 _ HS10.out (by omega) (by omega) (by omega)).mono ?_
                          rintro e w11 ⟨fb, rfl, hst, hk'⟩
                          have HS11 := Lib.hid (hst.mono (k' := k + 16 * i + 9) (by omega))
                          have HK11 := Lib.hid (HK10.out.trans hk')
                          have O11 := Lib.hid (own_keeps O10.out hk' hSw)
                          have Q11 := Lib.hid (Q10.out.keeps hk' hQS)
                          clear hst hk' HS10 HK10 O10 Q10
                          as_aux_lemma =>
                            go_upto_if 53 with (fail)
                            go_cut [] (fun wx => ∃ (a0 a1 a2 : List UInt8) (a3 a4 a5 a6 : Int) (a7 : List UInt8), Hid (RecB ⟨a0, a1, a2, a3, a4, a5, a6, a7⟩) ∧ Hid (StreamOk wx S (k + 16 * i + 15)) ∧ Hid (Keeps S w wx) ∧ Hid (VrecRow wx w.heap.size vo L) ∧ Hid (Blk wx Q [.string ⟨a0.toArray⟩, .string ⟨a1.toArray⟩, .string ⟨a2.toArray⟩, .int .i64 a3, .int .i64 a4, .int .i64 a5, .int .i64 a6, .string ⟨a7.toArray⟩] 50))
                            case first =>
                              cases fb
                              case false =>
                                as_aux_lemma =>
                                  go_wp2_with fail
                                  go_meet
                                  exact ⟨rs, s1, s2, z2, rg, tk, hw, s7, (⟨by show _ ≤ z2; omega, by show z2 ≤ _; omega, by show _ ≤ rg; omega, by show rg ≤ _; omega, by show _ ≤ tk; omega, by show tk ≤ _; omega, by show _ ≤ hw; omega, by show hw ≤ _; omega, HRL.out, HLs1.out, HLs2.out, HLs7.out⟩ : RecB ⟨rs, s1, s2, z2, rg, tk, hw, s7⟩), HS11.out.mono (by omega), HK11.out, O11.out, Q11.out⟩
                              as_aux_lemma =>
                                go_wp2_with fail
                                refine (next_any S (k + 16 * i + 9) 4 _ HS11.out (by omega) (by omega) (by omega)).mono ?_
                                rintro e w12 ⟨u, rfl, u0, u1, hst, hk'⟩
                                have HS12 := Lib.hid (hst.mono (k' := k + 16 * i + 10) (by omega))
                                have HK12 := Lib.hid (HK11.out.trans hk')
                                have O12 := Lib.hid (own_keeps O11.out hk' hSw)
                                have Q12 := Lib.hid (Q11.out.keeps hk' hQS)
                                clear hst hk' HS11 HK11 O11 Q11
                                have hu : u = 0 ∨ u = 1 ∨ u = 2 ∨ u = 3 := by omega
                                rcases hu with rfl | rfl | rfl | rfl
                                · skip
                                  as_aux_lemma =>
                                    go_wp2_with ((refine wpList_val rfl (bl_rcd4 _ (fun _ => rfl) _ _  ⟨#[]⟩ ⟨#[65]⟩ ⟨#[114, 97]⟩ rfl) ?_))
                                    refine (some_lit S (k + 16 * i + 10) [[], [65], [114, 97]] (fun s => s.length ≤ 10) _ _ _ HS12.out (by omega) rfl rfl (by decide) (by decide) (by decide)).mono ?_
                                    rintro e w13 ⟨b0, rfl, hb0, hst, hk'⟩
                                    have HLb0 := Lib.hid hb0
                                    clear hb0
                                    have HS13 := Lib.hid (hst.mono (k' := k + 16 * i + 11) (by omega))
                                    have HK13 := Lib.hid (HK12.out.trans hk')
                                    have O13 := Lib.hid (own_keeps O12.out hk' hSw)
                                    have Q13 := Lib.hid (Q12.out.keeps hk' hQS)
                                    clear hst hk' HS12 HK12 O12 Q12
                                    have sc0 := Q13.out.cell 0 rfl
                                    have sf0 := Q13.out.fr 0
                                    have HS14 : Hid (StreamOk (w13.setCell ⟨Q, 0, none⟩ (.string ⟨b0.toArray⟩)) S (k + 16 * i + 11)) := (stream_setQ HS13.out hSQ)
                                    have HK14 : Hid (Keeps S w (w13.setCell ⟨Q, 0, none⟩ (.string ⟨b0.toArray⟩))) := (HK13.out.setCell_new hwQ _)
                                    have O14 : Hid (VrecRow (w13.setCell ⟨Q, 0, none⟩ (.string ⟨b0.toArray⟩)) w.heap.size vo L) := (own_set1 O13.out HNQ.out)
                                    have Q14 : Hid (Blk (w13.setCell ⟨Q, 0, none⟩ (.string ⟨b0.toArray⟩)) Q [.string ⟨b0.toArray⟩, .string ⟨s1.toArray⟩, .string ⟨s2.toArray⟩, .int .i64 z2, .int .i64 rg, .int .i64 tk, .int .i64 hw, .string ⟨s7.toArray⟩] 50) := (Q13.out.put 0 _)
                                    clear HS13 HK13 O13 Q13
                                    as_aux_lemma =>
                                      go_wp2_with fail
                                      go_meet
                                      exact ⟨b0, s1, s2, z2, rg, tk, hw, s7, (⟨by show _ ≤ z2; omega, by show z2 ≤ _; omega, by show _ ≤ rg; omega, by show rg ≤ _; omega, by show _ ≤ tk; omega, by show tk ≤ _; omega, by show _ ≤ hw; omega, by show hw ≤ _; omega, HLb0.out, HLs1.out, HLs2.out, HLs7.out⟩ : RecB ⟨b0, s1, s2, z2, rg, tk, hw, s7⟩), HS14.out.mono (by omega), HK14.out, O14.out, Q14.out⟩
                                · skip
                                  as_aux_lemma =>
                                    go_wp2_with fail
                                    refine (phone_any S (k + 16 * i + 10) _ HS12.out (by omega)).mono ?_
                                    rintro e w13 ⟨b1, rfl, hb1, hst, hk'⟩
                                    have HLb1 := Lib.hid hb1
                                    clear hb1
                                    have HS13 := Lib.hid (hst.mono (k' := k + 16 * i + 12) (by omega))
                                    have HK13 := Lib.hid (HK12.out.trans hk')
                                    have O13 := Lib.hid (own_keeps O12.out hk' hSw)
                                    have Q13 := Lib.hid (Q12.out.keeps hk' hQS)
                                    clear hst hk' HS12 HK12 O12 Q12
                                    as_aux_lemma =>
                                      go_wp2_with fail
                                      refine (phone_any S (k + 16 * i + 12) _ HS13.out (by omega)).mono ?_
                                      rintro e w14 ⟨b2, rfl, hb2, hst, hk'⟩
                                      have HLb2 := Lib.hid hb2
                                      clear hb2
                                      have HS14 := Lib.hid (hst.mono (k' := k + 16 * i + 14) (by omega))
                                      have HK14 := Lib.hid (HK13.out.trans hk')
                                      have O14 := Lib.hid (own_keeps O13.out hk' hSw)
                                      have Q14 := Lib.hid (Q13.out.keeps hk' hQS)
                                      clear hst hk' HS13 HK13 O13 Q13
                                      have sc1 := Q14.out.cell 1 rfl
                                      have sf1 := Q14.out.fr 1
                                      have sc2 := Q14.out.cell 2 rfl
                                      have sf2 := Q14.out.fr 2
                                      have HS15 : Hid (StreamOk ((w14.setCell ⟨Q, 1, none⟩ (.string ⟨b1.toArray⟩)).setCell ⟨Q, 2, none⟩ (.string ⟨b2.toArray⟩)) S (k + 16 * i + 14)) := (stream_setQ (stream_setQ HS14.out hSQ) hSQ)
                                      have HK15 : Hid (Keeps S w ((w14.setCell ⟨Q, 1, none⟩ (.string ⟨b1.toArray⟩)).setCell ⟨Q, 2, none⟩ (.string ⟨b2.toArray⟩))) := ((HK14.out.setCell_new hwQ _).setCell_new hwQ _)
                                      have O15 : Hid (VrecRow ((w14.setCell ⟨Q, 1, none⟩ (.string ⟨b1.toArray⟩)).setCell ⟨Q, 2, none⟩ (.string ⟨b2.toArray⟩)) w.heap.size vo L) := (own_set1 (own_set1 O14.out HNQ.out) HNQ.out)
                                      have Q15 : Hid (Blk ((w14.setCell ⟨Q, 1, none⟩ (.string ⟨b1.toArray⟩)).setCell ⟨Q, 2, none⟩ (.string ⟨b2.toArray⟩)) Q [.string ⟨rs.toArray⟩, .string ⟨b1.toArray⟩, .string ⟨b2.toArray⟩, .int .i64 z2, .int .i64 rg, .int .i64 tk, .int .i64 hw, .string ⟨s7.toArray⟩] 50) := ((Q14.out.put 1 _).put 2 _)
                                      clear HS14 HK14 O14 Q14
                                      as_aux_lemma =>
                                        go_wp2_with fail
                                        go_meet
                                        exact ⟨rs, b1, b2, z2, rg, tk, hw, s7, (⟨by show _ ≤ z2; omega, by show z2 ≤ _; omega, by show _ ≤ rg; omega, by show rg ≤ _; omega, by show _ ≤ tk; omega, by show tk ≤ _; omega, by show _ ≤ hw; omega, by show hw ≤ _; omega, HRL.out, HLb1.out, HLb2.out, HLs7.out⟩ : RecB ⟨rs, b1, b2, z2, rg, tk, hw, s7⟩), HS15.out.mono (by omega), HK15.out, O15.out, Q15.out⟩
                                · skip
                                  as_aux_lemma =>
                                    go_wp2_with fail
                                    refine (odd_any S (k + 16 * i + 10) 0 100 _ HS12.out (by omega) (by omega) (by omega) (by omega)).mono ?_
                                    rintro e w13 ⟨y5, rfl, ⟨y50, y51⟩, hst, hk'⟩
                                    have HS13 := Lib.hid (hst.mono (k' := k + 16 * i + 12) (by omega))
                                    have HK13 := Lib.hid (HK12.out.trans hk')
                                    have O13 := Lib.hid (own_keeps O12.out hk' hSw)
                                    have Q13 := Lib.hid (Q12.out.keeps hk' hQS)
                                    clear hst hk' HS12 HK12 O12 Q12
                                    as_aux_lemma =>
                                      go_wp2_with fail
                                      refine (odd_any S (k + 16 * i + 12) 1 4 _ HS13.out (by omega) (by omega) (by omega) (by omega)).mono ?_
                                      rintro e w14 ⟨y6, rfl, ⟨y60, y61⟩, hst, hk'⟩
                                      have HS14 := Lib.hid (hst.mono (k' := k + 16 * i + 14) (by omega))
                                      have HK14 := Lib.hid (HK13.out.trans hk')
                                      have O14 := Lib.hid (own_keeps O13.out hk' hSw)
                                      have Q14 := Lib.hid (Q13.out.keeps hk' hQS)
                                      clear hst hk' HS13 HK13 O13 Q13
                                      have sc5 := Q14.out.cell 5 rfl
                                      have sf5 := Q14.out.fr 5
                                      have sc6 := Q14.out.cell 6 rfl
                                      have sf6 := Q14.out.fr 6
                                      have HS15 : Hid (StreamOk ((w14.setCell ⟨Q, 5, none⟩ (.int .i64 y5)).setCell ⟨Q, 6, none⟩ (.int .i64 y6)) S (k + 16 * i + 14)) := (stream_setQ (stream_setQ HS14.out hSQ) hSQ)
                                      have HK15 : Hid (Keeps S w ((w14.setCell ⟨Q, 5, none⟩ (.int .i64 y5)).setCell ⟨Q, 6, none⟩ (.int .i64 y6))) := ((HK14.out.setCell_new hwQ _).setCell_new hwQ _)
                                      have O15 : Hid (VrecRow ((w14.setCell ⟨Q, 5, none⟩ (.int .i64 y5)).setCell ⟨Q, 6, none⟩ (.int .i64 y6)) w.heap.size vo L) := (own_set1 (own_set1 O14.out HNQ.out) HNQ.out)
                                      have Q15 : Hid (Blk ((w14.setCell ⟨Q, 5, none⟩ (.int .i64 y5)).setCell ⟨Q, 6, none⟩ (.int .i64 y6)) Q [.string ⟨rs.toArray⟩, .string ⟨s1.toArray⟩, .string ⟨s2.toArray⟩, .int .i64 z2, .int .i64 rg, .int .i64 y5, .int .i64 y6, .string ⟨s7.toArray⟩] 50) := ((Q14.out.put 5 _).put 6 _)
                                      clear HS14 HK14 O14 Q14
                                      as_aux_lemma =>
                                        go_wp2_with fail
                                        go_meet
                                        exact ⟨rs, s1, s2, z2, rg, y5, y6, s7, (⟨by show _ ≤ z2; omega, by show z2 ≤ _; omega, by show _ ≤ rg; omega, by show rg ≤ _; omega, by show _ ≤ y5; omega, by show y5 ≤ _; omega, by show _ ≤ y6; omega, by show y6 ≤ _; omega, HRL.out, HLs1.out, HLs2.out, HLs7.out⟩ : RecB ⟨rs, s1, s2, z2, rg, y5, y6, s7⟩), HS15.out.mono (by omega), HK15.out, O15.out, Q15.out⟩
                                · skip
                                  as_aux_lemma =>
                                    go_wp2_with fail
                                    refine (odd_any S (k + 16 * i + 10) 0 100 _ HS12.out (by omega) (by omega) (by omega) (by omega)).mono ?_
                                    rintro e w13 ⟨y3, rfl, ⟨y30, y31⟩, hst, hk'⟩
                                    have HS13 := Lib.hid (hst.mono (k' := k + 16 * i + 12) (by omega))
                                    have HK13 := Lib.hid (HK12.out.trans hk')
                                    have O13 := Lib.hid (own_keeps O12.out hk' hSw)
                                    have Q13 := Lib.hid (Q12.out.keeps hk' hQS)
                                    clear hst hk' HS12 HK12 O12 Q12
                                    as_aux_lemma =>
                                      go_wp2_with fail
                                      refine (odd_any S (k + 16 * i + 12) 0 100 _ HS13.out (by omega) (by omega) (by omega) (by omega)).mono ?_
                                      rintro e w14 ⟨y4, rfl, ⟨y40, y41⟩, hst, hk'⟩
                                      have HS14 := Lib.hid (hst.mono (k' := k + 16 * i + 14) (by omega))
                                      have HK14 := Lib.hid (HK13.out.trans hk')
                                      have O14 := Lib.hid (own_keeps O13.out hk' hSw)
                                      have Q14 := Lib.hid (Q13.out.keeps hk' hQS)
                                      clear hst hk' HS13 HK13 O13 Q13
                                      as_aux_lemma =>
                                        go_wp2_with ((refine wpList_val rfl (bl_rcd3 _ (fun _ => rfl) _ _  ⟨#[]⟩ ⟨#[65]⟩ rfl) ?_))
                                        refine (some_lit S (k + 16 * i + 14) [[], [65]] (fun s => s ∈ carsB) _ _ _ HS14.out (by omega) rfl rfl (by decide) (by decide) (by decide)).mono ?_
                                        rintro e w15 ⟨b7, rfl, hb7, hst, hk'⟩
                                        have HLb7 := Lib.hid hb7
                                        clear hb7
                                        have HS15 := Lib.hid (hst.mono (k' := k + 16 * i + 15) (by omega))
                                        have HK15 := Lib.hid (HK14.out.trans hk')
                                        have O15 := Lib.hid (own_keeps O14.out hk' hSw)
                                        have Q15 := Lib.hid (Q14.out.keeps hk' hQS)
                                        clear hst hk' HS14 HK14 O14 Q14
                                        have sc3 := Q15.out.cell 3 rfl
                                        have sf3 := Q15.out.fr 3
                                        have sc4 := Q15.out.cell 4 rfl
                                        have sf4 := Q15.out.fr 4
                                        have sc7 := Q15.out.cell 7 rfl
                                        have sf7 := Q15.out.fr 7
                                        have HS16 : Hid (StreamOk (((w15.setCell ⟨Q, 3, none⟩ (.int .i64 y3)).setCell ⟨Q, 4, none⟩ (.int .i64 y4)).setCell ⟨Q, 7, none⟩ (.string ⟨b7.toArray⟩)) S (k + 16 * i + 15)) := (stream_setQ (stream_setQ (stream_setQ HS15.out hSQ) hSQ) hSQ)
                                        have HK16 : Hid (Keeps S w (((w15.setCell ⟨Q, 3, none⟩ (.int .i64 y3)).setCell ⟨Q, 4, none⟩ (.int .i64 y4)).setCell ⟨Q, 7, none⟩ (.string ⟨b7.toArray⟩))) := (((HK15.out.setCell_new hwQ _).setCell_new hwQ _).setCell_new hwQ _)
                                        have O16 : Hid (VrecRow (((w15.setCell ⟨Q, 3, none⟩ (.int .i64 y3)).setCell ⟨Q, 4, none⟩ (.int .i64 y4)).setCell ⟨Q, 7, none⟩ (.string ⟨b7.toArray⟩)) w.heap.size vo L) := (own_set1 (own_set1 (own_set1 O15.out HNQ.out) HNQ.out) HNQ.out)
                                        have Q16 : Hid (Blk (((w15.setCell ⟨Q, 3, none⟩ (.int .i64 y3)).setCell ⟨Q, 4, none⟩ (.int .i64 y4)).setCell ⟨Q, 7, none⟩ (.string ⟨b7.toArray⟩)) Q [.string ⟨rs.toArray⟩, .string ⟨s1.toArray⟩, .string ⟨s2.toArray⟩, .int .i64 y3, .int .i64 y4, .int .i64 tk, .int .i64 hw, .string ⟨b7.toArray⟩] 50) := (((Q15.out.put 3 _).put 4 _).put 7 _)
                                        clear HS15 HK15 O15 Q15
                                        as_aux_lemma =>
                                          go_wp2_with fail
                                          go_meet
                                          exact ⟨rs, s1, s2, y3, y4, tk, hw, b7, (⟨by show _ ≤ y3; omega, by show y3 ≤ _; omega, by show _ ≤ y4; omega, by show y4 ≤ _; omega, by show _ ≤ tk; omega, by show tk ≤ _; omega, by show _ ≤ hw; omega, by show hw ≤ _; omega, HRL.out, HLs1.out, HLs2.out, HLb7.out⟩ : RecB ⟨rs, s1, s2, y3, y4, tk, hw, b7⟩), HS16.out.mono (by omega), HK16.out, O16.out, Q16.out⟩
                            case rest =>
                              obtain ⟨a0, a1, a2, a3, a4, a5, a6, a7, HRB, HS30, HK30, O30, Q30⟩ := hcut
                              obtain ⟨w30, rfl⟩ : ∃ x : World, x = wc := ⟨_, rfl⟩
                              clear HS11 HK11 O11 Q11 HRL HRS HLs1 HLs2 HLs7
                              as_aux_lemma =>
                                go_upto_region 19 with (fail)
                                go_cut [95] (fun v wx => ∃ c : Bool, v = .bool c ∧ Hid (StreamOk wx S (k + 16 * i + 16)) ∧ Hid (Keeps S w wx) ∧ Hid (VrecRow wx w.heap.size vo L) ∧ Hid (Blk wx Q [.string ⟨a0.toArray⟩, .string ⟨a1.toArray⟩, .string ⟨a2.toArray⟩, .int .i64 a3, .int .i64 a4, .int .i64 a5, .int .i64 a6, .string ⟨a7.toArray⟩] 50))
                                case first =>
                                  as_aux_lemma =>
                                    go_wp2_with fail
                                    refine (flip_any S (k + 16 * i + 15) 80 _ HS30.out (by omega) (by omega) (by omega)).mono ?_
                                    rintro e w31 ⟨fc, rfl, hst, hk'⟩
                                    have HS31 := Lib.hid (hst.mono (k' := k + 16 * i + 16) (by omega))
                                    have HK31 := Lib.hid (HK30.out.trans hk')
                                    have O31 := Lib.hid (own_keeps O30.out hk' hSw)
                                    have Q31 := Lib.hid (Q30.out.keeps hk' hQS)
                                    clear hst hk' HS30 HK30 O30 Q30
                                    cases fc
                                    case true =>
                                      as_aux_lemma =>
                                        go_wp2_with fail
                                        go_meet
                                        exact ⟨true, rfl, HS31.out, HK31.out, O31.out, Q31.out⟩
                                    have HPR := Lib.hid (hasR_any 71 _ (enters_of Tryz.func71 (by kernel_rfl) rfl) w31 w.heap.size vo L O31.out (by omega) _ (recId_pred a0 Q w31 Q31.out.lt (Q31.out.cell 0 rfl)))
                                    as_aux_lemma =>
                                      go_wp2_with fail
                                      refine HPR.out.mono ?_
                                      rintro e wb ⟨bb, rfl, hb⟩
                                      have HSb := Lib.hid (HS31.out.below hb)
                                      have HKb := Lib.hid (HK31.out.trans (Keeps.of_below hb))
                                      have Ob : Hid (VrecRow wb w.heap.size vo L) := own_keep O31.out hb
                                      have Qb := Lib.hid (Q31.out.below hb)
                                      clear hb HPR HS31 HK31 O31 Q31
                                      as_aux_lemma =>
                                        go_wp2_with fail
                                        go_meet
                                        exact ⟨!bb, rfl, HSb.out, HKb.out, Ob.out, Qb.out⟩
                                case rest =>
                                  obtain ⟨c, rfl, HS40, HK40, O40, Q40⟩ := hcut
                                  obtain ⟨w40, rfl⟩ : ∃ x : World, x = wc := ⟨_, rfl⟩
                                  clear HS30 HK30 O30 Q30
                                  cases c
                                  case false =>
                                    as_aux_lemma =>
                                      go_wp2_with fail
                                      go_roundw
                                      case rel => exact ⟨i + 1, L, z2, by omega, by go_num, rfl, z20, by push_cast; omega, by omega, HA, O40, HS40.out.mono (by omega), HK40⟩
                                      case measure => simp [intOf]; omega
                                  obtain ⟨wn, hwn⟩ : ∃ w', w' = (w40.alloc (.cells #[.string ⟨a0.toArray⟩, .string ⟨a1.toArray⟩, .string ⟨a2.toArray⟩, .int .i64 a3, .int .i64 a4, .int .i64 a5, .int .i64 a6, .string ⟨a7.toArray⟩] 50)) := ⟨_, rfl⟩
                                  have hbn : Below w40.heap.size w40 wn := by rw [hwn]; exact ext_alloc (Below.refl _ _)
                                  have HZN : Hid (Blk wn w40.heap.size [.string ⟨a0.toArray⟩, .string ⟨a1.toArray⟩, .string ⟨a2.toArray⟩, .int .i64 a3, .int .i64 a4, .int .i64 a5, .int .i64 a6, .string ⟨a7.toArray⟩] 50) := by rw [hwn]; exact Blk.new _ _ _
                                  have HNW : Hid (∀ j u, ([.string ⟨a0.toArray⟩, .string ⟨a1.toArray⟩, .string ⟨a2.toArray⟩, .int .i64 a3, .int .i64 a4, .int .i64 a5, .int .i64 a6, .string ⟨a7.toArray⟩] : List Value)[j]? = some u → wn.cell? ((⟨w40.heap.size, 0, none⟩ : Addr).add j) = some u) := fun j u hj => by
                                    rw [show (⟨w40.heap.size, 0, none⟩ : Addr).add j = ⟨w40.heap.size, j, none⟩ by cases j <;> simp [Addr.add]]
                                    exact HZN.out.cell j hj
                                  have HON : Hid (wn.ownsRow w.heap.size 50 8 vo L.length ((L.map Vrec.cells).flatten)) := own_keep O40.out hbn
                                  have HSN := Lib.hid (HS40.out.below hbn)
                                  have HKN := Lib.hid (HK40.out.trans (Keeps.of_below hbn))
                                  have HWN := Lib.hid hwn
                                  have HLM : Hid (L.length + 1 ≤ maxLen ∧ (L.length + 1) * 96 ≤ 140737488355328) := ⟨by unfold maxLen; omega, by omega⟩
                                  have hbw : w.heap.size ≤ wn.heap.size := HKN.out.size
                                  have HRG : Hid (w40.rangeAt Q 0 [.string ⟨a0.toArray⟩, .string ⟨a1.toArray⟩, .string ⟨a2.toArray⟩, .int .i64 a3, .int .i64 a4, .int .i64 a5, .int .i64 a6, .string ⟨a7.toArray⟩]) := fun j v hj => by rw [Nat.zero_add]; exact Q40.out.cell j hj
                                  clear hbn hwn HS40 HK40 O40 Q40
                                  as_aux_lemma =>
                                    go_upto_region 21 with (first | (refine wpList_load_mid rfl 50 (.tmp 8) rfl Q 0 rfl [.string ⟨a0.toArray⟩, .string ⟨a1.toArray⟩, .string ⟨a2.toArray⟩, .int .i64 a3, .int .i64 a4, .int .i64 a5, .int .i64 a6, .string ⟨a7.toArray⟩] _ HRG.out Tryz.underlying50 rfl Tryz.recSz ?_) | ((refine wpList_val rfl (bl_rcd5 _ (fun _ => rfl) _ _ 97 ⟨a0.toArray⟩ ⟨a1.toArray⟩ ⟨a2.toArray⟩ a3 a4 a5 a6 ⟨a7.toArray⟩ rfl rfl) ?_)) | (at_builtin; rw [← HWN.out]; refine wpList_append_own _ rfl (.tmp 96) (.tmp 98) 33 rfl w.heap.size 50 i0 (.agg #[.string ⟨#[]⟩, .string ⟨#[]⟩, .string ⟨#[]⟩, .int .i64 0, .int .i64 0, .int .i64 0, .int .i64 0, .string ⟨#[]⟩]) 8 96 Tryz.underlying33 hi0 hz0 hz1 hz2 rfl (by decide) vo L.length ((L.map Vrec.cells).flatten) rfl HON.out ⟨w40.heap.size, 0, none⟩ 1 1 [.string ⟨a0.toArray⟩, .string ⟨a1.toArray⟩, .string ⟨a2.toArray⟩, .int .i64 a3, .int .i64 a4, .int .i64 a5, .int .i64 a6, .string ⟨a7.toArray⟩] rfl rfl HNW.out (by intro u hu; simp at hu; rcases hu with rfl | rfl | rfl | rfl | rfl | rfl | rfl | rfl <;> rfl) HLM.out.1 HLM.out.2 hbw ?_; intro vn wx hon hgn _))
                                    have HOX : Hid (VrecRow wx w.heap.size vn (L ++ [⟨a0, a1, a2, a3, a4, a5, a6, a7⟩])) := by
                                      show VrecRow _ _ _ _
                                      unfold VrecRow
                                      rw [List.map_append, List.flatten_append, List.length_append]
                                      exact hon
                                    have HOB : Hid (∀ b, vo.ownBlock = some b → w.heap.size ≤ b ∧ b < wn.heap.size) := fun b hb => HON.out.lt b hb
                                    have HSX : Hid (StreamOk wx S (k + 16 * (i + 1))) := (HSN.out.upto ⟨hgn.os, hgn.tape, hgn.output, hgn.size, fun j hj => hgn.block j (by have := HSN.out.lt; omega) (fun e => by have := (HOB.out j e.symm).1; omega)⟩).mono (by omega)
                                    have HKX : Hid (Keeps S w wx) := ⟨hgn.os.trans HKN.out.os, hgn.tape.trans HKN.out.tape, hgn.output.trans HKN.out.output, Nat.le_trans HKN.out.size hgn.size, fun j hj hjS => (hgn.block j (Nat.lt_of_lt_of_le hj HKN.out.size) (fun e => by have := (HOB.out j e.symm).1; omega)).trans (HKN.out.block j hj hjS)⟩
                                    have HAX : Hid (∀ y ∈ L ++ [(⟨a0, a1, a2, a3, a4, a5, a6, a7⟩ : Vrec)], RecB y) := fun y hy => by
                                      rcases List.mem_append.1 hy with hy | hy
                                      · exact HA.out y hy
                                      · rw [List.mem_singleton.1 hy]
                                        exact HRB.out
                                    clear hon hgn HON HSN HKN HWN HNW HZN HOB HRG
                                    as_aux_lemma =>
                                      go_wp2_with fail
                                      go_roundw
                                      case rel => exact ⟨i + 1, L ++ [⟨a0, a1, a2, a3, a4, a5, a6, a7⟩], z2, by omega, by go_num, rfl, z20, by push_cast; omega, by rw [List.length_append, List.length_singleton]; omega, HAX, HOX, HSX, HKX⟩
                                      case measure => simp [intOf]; omega
def RightR (S k m : Nat) (w : World) (e : Ending) (w' : World) : Prop := ∃ v l, e = .returned v ∧ VrecRow w' w.heap.size v l ∧ l.length ≤ m ∧ (∀ a ∈ l, RecB a) ∧ RecsOk l ∧ StreamOk w' S k ∧ Keeps S w w'
set_option maxRecDepth 100000 in
set_option maxHeartbeats 8000000 in
theorem rightRecs_any (S k m : Nat) (w : World) (h : StreamOk w S k) (hk : k ≤ 800000) (hm : m ≤ 12) : Calls Tryz.prog 8 #[.pointer (some ⟨S, 0, none⟩), .int .i64 m] w (RightR S (k + 1000) m w) := by
  have hSw := h.lt
  have HS0 := Lib.hid h
  clear h
  go_enter Tryz.func8, Tryz.ntmps8
  go_wp2_with fail
  go_loopw [6] (fun it wr => ∃ i : Nat, i ≤ 5 ∧ it = .int .i64 i ∧ Hid (StreamOk wr S (k + 200 * i)) ∧ Hid (Keeps S w wr)) (fun it _ => 5 - (intOf it).toNat)
  case atStart => exact ⟨0, by omega, rfl, HS0.out, Keeps.refl _ _⟩
  case round =>
    clear HS0
    obtain ⟨i, hi, rfl, HS1, HK1⟩ := hrel
    by_cases hlt : i < 5
    case neg =>
      have hin : ¬ ((i : Int) < 5) := by omega
      have HE : Hid (RightR S (k + 1000) m w (.returned (.slice none 0 0)) wr) := ⟨_, [], rfl, World.ownsRow_nil _ _ _ _, Nat.zero_le _, (fun a ha => by cases ha), RecsOk.nil, HS1.out.mono (by omega), HK1.out⟩
      as_aux_lemma =>
        go_wp2_with fail
        go_ret
        exact HE.out
    have hin : (i : Int) < 5 := by omega
    as_aux_lemma =>
      go_wp2_with fail
      refine (recs_any S (k + 200 * i) m _ HS1.out (by omega) hm).mono ?_
      rintro e w2 ⟨v, l, rfl, hr, hl, hab, hst, hk'⟩
      have HR := Lib.hid hr
      have HAB := Lib.hid hab
      have HS2 : Hid (StreamOk w2 S (k + 200 * (i + 1))) := hst.mono (by omega)
      have HK2 := Lib.hid (HK1.out.trans hk')
      have hbw : w.heap.size ≤ wr.heap.size := HK1.out.size
      have HF := Lib.hid (recsFault_any w2 _ v l hr (by omega) hab)
      clear hr hab hst hk' HS1 HK1
      as_aux_lemma =>
        go_wp2_with fail
        refine HF.out.mono ?_
        rintro e w3 ⟨E, rfl, hE, hb⟩
        have HS3 := Lib.hid (HS2.out.below hb)
        have HK3 := Lib.hid (HK2.out.ext hb)
        have HR3 : Hid (VrecRow w3 w.heap.size v l) := own_le (own_keep HR.out hb) hbw
        have HEE := Lib.hid hE
        clear hE hb HS2 HK2 HR HF
        by_cases hE0 : E = 0
        · subst hE0
          have HE : Hid (RightR S (k + 1000) m w (.returned v) w3) := ⟨v, l, rfl, HR3.out, hl, HAB.out, HEE.out rfl, HS3.out.mono (by omega), HK3.out⟩
          as_aux_lemma =>
            go_wp2_with fail
            go_ret
            exact HE.out
        · have hEb : (E == 0) = false := by simpa using hE0
          as_aux_lemma =>
            go_wp2_with fail
            go_roundw
            case rel => exact ⟨i + 1, by omega, by go_num, HS3, HK3⟩
            case measure => simp [intOf]; omega
end Go.Proofs.YtleagenhnchjdaaGreatDoor

set_option linter.unusedVariables false
set_option linter.unusedSimpArgs false
namespace Go.Proofs.YtleagenhnchjdaaGreatDoor
open Go.RowKit Go.Sort Go.Lib

theorem clR_z (w : World) (base : Nat) (hb : base ≤ w.heap.size) : (w.alloc (.cells #[] 50)).ownsRow base 50 8 (.slice (some ⟨w.heap.size, 0, none⟩) 0 0) 0 [] := World.ownsRow_lit w #[] 0 hb (by simp only [maxLen]; omega) rfl
def clRPost (l : List Vrec) (w : World) (e : Ending) (w' : World) : Prop := ∃ v', e = .returned v' ∧ VrecRow w' w.heap.size v' l ∧ Below w.heap.size w w'
set_option maxRecDepth 100000 in
set_option maxHeartbeats 2000000 in
theorem clR_any (w : World) (base : Nat) (v : Value) (l : List Vrec) (h : VrecRow w base v l) (hfew : l.length ≤ 100000) : Calls Tryz.prog 52 #[v] w (clRPost l w) := by
  unfold VrecRow at h
  obtain ⟨i0, hi, hz0, hz1, hz2⟩ := info_parts Tryz.recInfo
  have qeq : ∀ (w : World) (a : Option Addr) (n c n' c' : Nat), (binOp .eql 33 (.slice a n c) (.slice none n' c')).run Tryz.prog w = .ok (.bool a.isNone) w := fun w a n c n' c' => Lib.run_eql_slice_nil w _ _ a n c n' c' Tryz.underlying33
  obtain ⟨a, c, rfl⟩ := own_shape h
  cases a with
  | none =>
    have h0 : l.length = 0 := by
      rcases h.2 with ⟨e, h0⟩ | ⟨g, cap, cur, e, _⟩
      · injection e with _ e2 _
      · cases e
    have hx : l = [] := List.eq_nil_of_length_eq_zero h0
    subst hx
    clear h
    show Calls Tryz.prog 52 #[.slice none 0 c] w _
    go_enter Tryz.func52, Tryz.ntmps52
    go_wp2_with fail
    go_ret
    exact ⟨_, rfl, World.ownsRow_nil _ _ _ _, (by (try show Below _ _ _); repeat (with_reducible first | exact Below.refl _ _ | assumption | exact Hid.out (by assumption) | refine ext_alloc ?_ | refine ext_drewN ?_ | refine ext_drew ?_ | refine ext_setCell ?_ (Nat.le_refl _) | refine ext_setCell ?_ (Nat.le_succ _) | refine ext_trans ?_ (by assumption) | (refine ext_setCell ?_ (by simp)) | (refine ext_setCell ?_ (by simp at *; omega))))⟩
  | some ad =>
    have hgt : ∃ g, ad = ⟨g, 0, none⟩ ∧ g < w.heap.size := by
      rcases h.2 with ⟨e, h0⟩ | ⟨g, cap, cur, e, _, h2, _⟩
      · cases e
      · injection e with e1
        injection e1 with e1
        exact ⟨g, e1, (Array.getElem?_eq_some_iff.1 h2).1⟩
    obtain ⟨g, rfl, hg⟩ := hgt
    have HLN : Hid (((l.map Vrec.cells).flatten).length = l.length * 8) := flat_length Vrec.cells 8 (fun _ => rfl) l
    have HCE : Hid (∀ (j : Nat) u, ((l.map Vrec.cells).flatten)[j]? = some u → (w.alloc (.cells #[] 50)).cell? ((⟨g, 0, none⟩ : Addr).add j) = some u) := (own_keep h (ext_alloc (Below.refl _ _))).cells rfl
    have HON : Hid (∀ u ∈ (l.map Vrec.cells).flatten, u.oneCell' = true) := fun u hu => by
      obtain ⟨cs, h1, h2⟩ := List.mem_flatten.1 hu
      obtain ⟨y, -, rfl⟩ := List.mem_map.1 h1
      exact rec_one y u h2
    have HOA := Lib.hid (clR_z w w.heap.size (Nat.le_refl _))
    obtain ⟨n, hn⟩ : ∃ n, n = l.length := ⟨_, rfl⟩
    have HOK : Hid (∀ (v' : Value) (W : World), W.ownsRow w.heap.size 50 8 v' n ((l.map Vrec.cells).flatten) → Below w.heap.size w W → clRPost l w (.returned v') W) := fun v' W h1 h2 => ⟨v', rfl, by unfold VrecRow; rw [← hn]; exact h1, h2⟩
    generalize hPP : clRPost l w = PP at HOK ⊢
    generalize (l.map Vrec.cells).flatten = fl at HLN HCE HON HOK
    rw [← hn] at HLN hfew ⊢
    clear h hPP hn
    go_enter Tryz.func52, Tryz.ntmps52
    go_wp2_with (at_builtin; refine wpList_append_own_at _ rfl (.tmp 5) (.tmp 6) 33 rfl w.heap.size 50 i0 _ 8 96 Tryz.underlying33 hi hz0 hz1 hz2 rfl (by omega) _ 0 _ rfl HOA.out ⟨g, 0, none⟩ n c fl rfl HLN.out HCE.out HON.out (by simp only [maxLen]; omega) (by omega) (by simp) ?_; intro v6 w6 hown6 hgr6 _ _)
    have HO6 : Hid (w6.ownsRow w.heap.size 50 8 v6 n fl) := by
      show World.ownsRow _ _ _ _ _ _ _
      rw [Nat.zero_add, List.nil_append] at hown6
      exact hown6
    have HB6 : Hid (Below w.heap.size w w6) := upto_grown hgr6 (Nat.le_refl _) (fun b e => (HOA.out.lt b e).1)
    clear hown6 hgr6
    exact HOK.out _ _ HO6.out HB6.out
def eqRE (x y : Vrec) : Bool := x.id == y.id && (x.frm == y.frm && (x.to_ == y.to_ && (x.at_ == y.at_ && (x.ring == y.ring && (x.talk == y.talk && (x.how == y.how && (x.car == y.car)))))))
theorem eqR_neq : NeqAt Tryz.prog 50 (fun x : Vrec => .agg (Vrec.cells x).toArray) eqRE := by
  refine ⟨fun x y w => ?_, GuardAt.agg _ (by kernel_rfl)⟩
  obtain ⟨x0, x1, x2, x3, x4, x5, x6, x7⟩ := x
  obtain ⟨y0, y1, y2, y3, y4, y5, y6, y7⟩ := y
  show (binOp .neq 50 (.agg #[.string ⟨x0.toArray⟩, .string ⟨x1.toArray⟩, .string ⟨x2.toArray⟩, .int .i64 x3, .int .i64 x4, .int .i64 x5, .int .i64 x6, .string ⟨x7.toArray⟩]) (.agg #[.string ⟨y0.toArray⟩, .string ⟨y1.toArray⟩, .string ⟨y2.toArray⟩, .int .i64 y3, .int .i64 y4, .int .i64 y5, .int .i64 y6, .string ⟨y7.toArray⟩])).run Tryz.prog w = _
  go_simp
  unfold eqRE
  by_cases h0 : x0 = y0 <;> by_cases h1 : x1 = y1 <;> by_cases h2 : x2 = y2 <;> by_cases h3 : x3 = y3 <;> by_cases h4 : x4 = y4 <;> by_cases h5 : x5 = y5 <;> by_cases h6 : x6 = y6 <;> by_cases h7 : x7 = y7 <;> simp [*]
theorem eqR_self : ∀ (l : List Vrec), Lib.allEq eqRE l l = true
  | [] => rfl
  | x :: l => by
    show (eqRE x x && Lib.allEq eqRE l l) = true
    rw [show eqRE x x = true by simp [eqRE], eqR_self l]; rfl
theorem eqR_none (w : World) (a a2 : Option Addr) (c c2 : Nat) : Calls Tryz.prog 23 #[.slice a 0 c, .slice a2 0 c2] w fun e w' => e = .returned (.bool true) ∧ Below w.heap.size w w' := by
  go_enter Tryz.func23, Tryz.ntmps23
  go_wp2_with fail
  go_loopw [13] (fun i wr => i = .int .i64 0 ∧ Hid (Below w.heap.size w wr)) (fun _ _ => 0)
  case atStart => exact ⟨rfl, (by (try show Below _ _ _); repeat (with_reducible first | exact Below.refl _ _ | assumption | exact Hid.out (by assumption) | refine ext_alloc ?_ | refine ext_drewN ?_ | refine ext_drew ?_ | refine ext_setCell ?_ (Nat.le_refl _) | refine ext_setCell ?_ (Nat.le_succ _) | refine ext_trans ?_ (by assumption) | (refine ext_setCell ?_ (by simp)) | (refine ext_setCell ?_ (by simp at *; omega))))⟩
  case round =>
    obtain ⟨rfl, HB⟩ := hrel
    go_wp2_with fail
    go_ret
    exact ⟨rfl, (by (try show Below _ _ _); repeat (with_reducible first | exact Below.refl _ _ | assumption | exact Hid.out (by assumption) | refine ext_alloc ?_ | refine ext_drewN ?_ | refine ext_drew ?_ | refine ext_setCell ?_ (Nat.le_refl _) | refine ext_setCell ?_ (Nat.le_succ _) | refine ext_trans ?_ (by assumption) | (refine ext_setCell ?_ (by simp)) | (refine ext_setCell ?_ (by simp at *; omega))))⟩
theorem eqR_any {w : World} {base base2 : Nat} {v v2 : Value} {xs : List Vrec} (h : VrecRow w base v xs) (h2 : VrecRow w base2 v2 xs) (hn : xs.length ≤ 100000) :
    Calls Tryz.prog 23 #[v, v2] w (BoolP true w) := by
  by_cases h0 : xs.length = 0
  · obtain ⟨a, c, rfl⟩ := own_shape h
    obtain ⟨a2, c2, rfl⟩ := own_shape h2
    rw [h0]
    exact eqR_none w a a2 c c2
  · obtain ⟨a, c, rfl⟩ := own_shape h
    obtain ⟨a2, c2, rfl⟩ := own_shape h2
    obtain ⟨g, rfl, -, -⟩ := own_pos h (by omega)
    obtain ⟨g2, rfl, -, -⟩ := own_pos h2 (by omega)
    refine (Tryz.slices_eqVrec Vrec.cells (fun _ => rfl) eqRE eqR_neq g 0 xs.length c g2 0 xs.length c2 xs xs w (Nat.le_refl _) (Nat.le_refl _) (by omega) (by omega) (fun j hj i v hv => ?_) (fun j hj i v hv => ?_)).mono ?_
    · rw [bang_is hj] at hv
      rw [Nat.zero_add]
      exact own_field Vrec.cells (fun _ => rfl) h j i default hj (by have := (List.getElem?_eq_some_iff.1 hv).1; exact this) hv
    · rw [bang_is hj] at hv
      rw [Nat.zero_add]
      exact own_field Vrec.cells (fun _ => rfl) h2 j i default hj (by have := (List.getElem?_eq_some_iff.1 hv).1; exact this) hv
    · rintro e w' ⟨rfl, q, rfl⟩
      rw [List.take_length, eqR_self]
      exact ⟨rfl, ext_drewN (Below.refl _ _)⟩
end Go.Proofs.YtleagenhnchjdaaGreatDoor

set_option linter.unusedVariables false
set_option linter.unusedSimpArgs false
namespace Go.Proofs.YtleagenhnchjdaaGreatDoor
open Go.RowKit Go.Sort Go.Lib

def MergeR (a b : List Vrec) (w : World) (e : Ending) (w' : World) : Prop := ∃ v1 v2 x d, e = .returned (.tuple #[v1, v2, .int .i64 0]) ∧ VrecRow w' w.heap.size v1 x ∧ w'.ownsRow w.heap.size 9 1 v2 d.length (d.map encS) ∧ MrgD a b x d ∧ Below w.heap.size w w'
theorem siUnd2 : Tryz.prog.underlying 45 = some (.map 9 3) := by kernel_rfl
/-- What Merge has in hand behind a round. -/
structure MrgW (wr : World) (B M n : Nat) (f : List UInt8 → Option Nat) (vo vd : Value) (o : List Vrec) (d : List (List UInt8)) : Prop where
  out : wr.ownsRow B 50 8 vo o.length ((o.map Vrec.cells).flatten)
  dif : wr.ownsRow B 9 1 vd d.length (d.map encS)
  apart : ∀ g, vo.ownBlock = some g → vd.ownBlock ≠ some g
  map : SiAt wr M n f
  lt : M < B
  room : B ≤ wr.heap.size
theorem MrgW.mb {w w' : World} {B M n : Nat} {f : List UInt8 → Option Nat} {vo vd : Value} {o : List Vrec} {d : List (List UInt8)} (h : MrgW w B M n f vo vd o d) (hb : Below w.heap.size w w') : MrgW w' B M n f vo vd o d := ⟨own_keep h.out hb, own_keep h.dif hb, h.apart, h.map.below hb, h.lt, Nat.le_trans h.room hb.size⟩
theorem MrgW.app {w wx : World} {B M n : Nat} {f : List UInt8 → Option Nat} {vo vd vn : Value} {o : List Vrec} {d : List (List UInt8)} {x : Vrec} (h : MrgW w B M n f vo vd o d) (hon : wx.ownsRow B 50 8 vn (o.length + 1) ((o.map Vrec.cells).flatten ++ x.cells)) (hg : w.grownBy wx vo.ownBlock) (hat : vn.ownBlock = vo.ownBlock ∨ vn.ownBlock = some w.heap.size) : MrgW wx B M n f vn vd (o ++ [x]) d := by
  refine ⟨?_, own_gb h.dif hg (fun b hb e => h.apart b e hb), fun g hg2 e => ?_, h.map.grown hg (fun e => ?_), h.lt, Nat.le_trans h.room hg.size⟩
  · rw [List.map_append, List.flatten_append, List.length_append]
    simp only [List.map_cons, List.map_nil, List.flatten_cons, List.flatten_nil, List.append_nil, List.length_cons, List.length_nil]
    exact hon
  · rcases hat with q | q
    · exact h.apart g (q ▸ hg2) e
    · rw [q] at hg2; injection hg2 with hg2; have := (h.dif.lt g e).2; omega
  · have := (h.out.lt M e.symm).1; have := h.lt; omega
theorem MrgW.dfr {w wx : World} {B M n : Nat} {f : List UInt8 → Option Nat} {vo vd vn : Value} {o : List Vrec} {d : List (List UInt8)} {k : List UInt8} (h : MrgW w B M n f vo vd o d) (hon : wx.ownsRow B 9 1 vn (d.length + 1) (d.map encS ++ [encS k])) (hg : w.grownBy wx vd.ownBlock) (hat : vn.ownBlock = vd.ownBlock ∨ vn.ownBlock = some w.heap.size) : MrgW wx B M n f vo vn o (d ++ [k]) := by
  refine ⟨own_gb h.out hg (fun b hb e => h.apart b hb e), ?_, fun g hg2 e => ?_, h.map.grown hg (fun e => ?_), h.lt, Nat.le_trans h.room hg.size⟩
  · rw [List.map_append, List.length_append]
    exact hon
  · rcases hat with q | q
    · exact h.apart g hg2 (q ▸ e)
    · rw [q] at e; injection e with e; have := (h.out.lt g hg2).2; omega
  · have := (h.dif.lt M e.symm).1; have := h.lt; omega
theorem MrgW.put {w : World} {B M n g c : Nat} {f : List UInt8 → Option Nat} {vd : Value} {o : List Vrec} {d : List (List UInt8)} (h : MrgW w B M n f (.slice (some ⟨g, 0, none⟩) o.length c) vd o d) (i : Nat) (hi : i < o.length) (x : Vrec) : MrgW (w.setCells g (i * 8) x.cells) B M n f (.slice (some ⟨g, 0, none⟩) o.length c) vd (o.set i x) d := by
  have hg := setCells_gb (w := w) g x.cells (i * 8)
  refine ⟨by rw [List.length_set]; exact rec_put h.out i hi x, own_gb h.dif hg (fun b hb e => h.apart b e hb), h.apart, h.map.grown hg (fun e => ?_), h.lt, by have := hg.size; exact Nat.le_trans h.room this⟩
  have := (h.out.lt M e.symm).1; have := h.lt; omega
/-- A further record's Id. -/
theorem idAt_snoc {a : List Vrec} (ha : a.Pairwise fun x y => x.id ≠ y.id) {i : Nat} (hi : i < a.length) : (fun z => if z = (a.getD i default).id then some i else idAt (a.take i) z) = idAt (a.take (i + 1)) := by
  funext z
  rw [rtake_succ a hi]
  unfold idAt
  rw [List.findIdx?_append]
  have hl : (a.take i).length = i := by rw [List.length_take]; omega
  by_cases hz : z = (a.getD i default).id
  · rw [if_pos hz]
    have hn : (a.take i).findIdx? (fun x => decide (x.id = z)) = none := by
      rw [List.findIdx?_eq_none_iff]
      intro y hy
      obtain ⟨j, hj, rfl⟩ := List.getElem_of_mem hy
      rw [List.length_take] at hj
      rw [List.getElem_take, hz, rget hi, decide_eq_false (List.pairwise_iff_getElem.1 ha j i (by omega) hi (by omega))]
    rw [hn, hl]
    simp [hz, List.findIdx?_cons]
  · rw [if_neg hz]
    have h9 : decide ((a.getD i default).id = z) = false := decide_eq_false (fun e => hz e.symm)
    have hn : [a.getD i default].findIdx? (fun x => decide (x.id = z)) = none := by simp only [List.findIdx?_cons, h9, List.findIdx?_nil]; rfl
    rw [hn]
    cases (a.take i).findIdx? (fun x => decide (x.id = z)) <;> rfl
theorem neq_rec (e : Operand → Value) (o : Oper) (w : World) (x y : Vrec) (ho : o.op = .binOp .neq 50 (.tmp 67) (.tmp 68) 50) (h1 : e (.tmp 67) = .agg (Vrec.cells x).toArray) (h2 : e (.tmp 68) = .agg (Vrec.cells y).toArray) :
   (execOp e o).run Tryz.prog w = .ok (.value (.bool (!eqRE x y))) w := by
  unfold execOp
  rw [ho]
  simp only [h1, h2]
  have h3 : (binOp .neq 50 (.agg x.cells.toArray) (.agg y.cells.toArray)).run Tryz.prog w = .ok (.bool (!eqRE x y)) w := eqR_neq.1 x y w
  have h4 : (eqGuard .neq 50 (.tmp 67) (.tmp 68) (.agg x.cells.toArray) (.agg y.cells.toArray)).run Tryz.prog w = .ok () w := eqR_neq.2 .neq (.tmp 67) (.tmp 68) x y w
  simp only [Sem.run_bind, h4, h3, Result.andThen_ok, Sem.run_pure]
theorem eqRE_iff (x y : Vrec) : eqRE x y = decide (x = y) := by
  obtain ⟨x0, x1, x2, x3, x4, x5, x6, x7⟩ := x
  obtain ⟨y0, y1, y2, y3, y4, y5, y6, y7⟩ := y
  unfold eqRE
  rw [Bool.eq_iff_iff]
  simp only [Bool.and_eq_true, beq_iff_eq, decide_eq_true_eq, Vrec.mk.injEq]
theorem bl_rmg0 (e : Operand → Value) (he : ∀ v, e (.const v) = v) (o : Oper) (w : World) (i0 : Nat) (p0_0 : ByteArray) (p0_1 : ByteArray) (p0_2 : ByteArray) (z0_3 : Int) (z0_4 : Int) (z0_5 : Int) (z0_6 : Int) (p0_7 : ByteArray) (ho : o.op = .buildSlice 33 1 #[(0, .tmp i0)]) (h0 : e (.tmp i0) = .agg #[.string p0_0, .string p0_1, .string p0_2, .int .i64 z0_3, .int .i64 z0_4, .int .i64 z0_5, .int .i64 z0_6, .string p0_7]) :
   (execOp e o).run Tryz.prog w = .ok (.value (.slice (some ⟨w.heap.size, 0, none⟩) 1 1)) (w.alloc (.cells #[.string p0_0, .string p0_1, .string p0_2, .int .i64 z0_3, .int .i64 z0_4, .int .i64 z0_5, .int .i64 z0_6, .string p0_7] 50)) := by
  unfold execOp
  rw [ho]
  simp only [List.map_toArray, List.map_cons, List.map_nil, h0]
  kernel_rfl
theorem bl_rmg1 (e : Operand → Value) (he : ∀ v, e (.const v) = v) (o : Oper) (w : World) (i0 : Nat) (p0 : ByteArray) (ho : o.op = .buildSlice 27 1 #[(0, .tmp i0)]) (h0 : e (.tmp i0) = .string p0) :
   (execOp e o).run Tryz.prog w = .ok (.value (.slice (some ⟨w.heap.size, 0, none⟩) 1 1)) (w.alloc (.cells #[.string p0] 9)) := by
  unfold execOp
  rw [ho]
  simp only [List.map_toArray, List.map_cons, List.map_nil, h0]
  kernel_rfl
set_option maxRecDepth 100000 in
set_option maxHeartbeats 32000000 in
theorem mergeR_any (w : World) (a b : List Vrec) (hoa : RecsOk a) (hob : RecsOk b) (hba : ∀ r ∈ a, RecB r) (hbb : ∀ r ∈ b, RecB r) (hla : a.length ≤ 50) (hlb : b.length ≤ 50) (base1 base2 : Nat) (v1 v2 : Value) (h1 : VrecRow w base1 v1 a) (h2 : VrecRow w base2 v2 b) :
    Calls Tryz.prog 22 #[v1, v2] w (MergeR a b w) := by
  obtain ⟨i0, hi0, hz0, hz1, hz2⟩ := info_parts Tryz.recInfo
  obtain ⟨s0, hs0, sz0, sz1, sz2⟩ := info_parts Tryz.infoStr
  have HC1 : Hid (∀ W, Below w.heap.size w W → Calls Tryz.prog 25 #[v1] W (IntP 0 W)) := fun W hW => checkRecs_any W base1 v1 a (own_keep h1 hW) (by omega) hoa hba
  have HC2 : Hid (∀ W, Below w.heap.size w W → Calls Tryz.prog 25 #[v2] W (IntP 0 W)) := fun W hW => checkRecs_any W base2 v2 b (own_keep h2 hW) (by omega) hob hbb
  have HCL : Hid (∀ W, Below w.heap.size w W → Calls Tryz.prog 52 #[v1] W (clRPost a W)) := fun W hW => clR_any W base1 v1 a (own_keep h1 hW) (by omega)
  have HRA : Hid (w.ownsRow base1 50 8 v1 a.length ((a.map Vrec.cells).flatten)) := h1
  have HRB : Hid (w.ownsRow base2 50 8 v2 b.length ((b.map Vrec.cells).flatten)) := h2
  have HBA := Lib.hid hba
  have HBB := Lib.hid hbb
  have HIA := Lib.hid hoa.ids
  have HIB := Lib.hid hob.ids
  have HINV : Hid (∀ j, j ≤ b.length → MInv a b j (mrgN a b j)) := fun j hj => mrgN_inv hoa.ids hob.ids j hj
  unfold VrecRow at h2
  obtain ⟨a2, c2, rfl⟩ := own_shape h2
  unfold VrecRow at h1
  obtain ⟨a1, c1, rfl⟩ := own_shape h1
  clear h1 h2 hoa hob hba hbb
  obtain ⟨n, hn⟩ : ∃ n, n = b.length := ⟨_, rfl⟩
  have HN := Lib.hid hn
  obtain ⟨m, hmm2⟩ : ∃ m, m = a.length := ⟨_, rfl⟩
  have HM := Lib.hid hmm2
  rw [← hn] at HC2 HRB hlb ⊢
  rw [← hmm2] at HC1 HCL HRA hla ⊢
  clear hn hmm2
  go_enter Tryz.func22, Tryz.ntmps22
  go_wp2_with fail
  refine (HC1.out _ (Below.refl _ _)).mono ?_
  rintro e w2 ⟨rfl, hb⟩
  have HB2 := Lib.hid hb
  clear hb
  as_aux_lemma =>
    go_wp2_with fail
    refine (HC2.out _ HB2.out).mono ?_
    rintro e w3 ⟨rfl, hb⟩
    have HB3 := Lib.hid (ext_trans HB2.out hb)
    have HM3 : Hid (SiAt (w3.alloc (.map #[] 0)) w3.heap.size 0 (fun _ => none)) := SiAt.made w3
    have HB3a : Hid (Below w.heap.size w (w3.alloc (.map #[] 0))) := ext_alloc HB3.out
    have hM0 : w.heap.size ≤ w3.heap.size := HB3.out.size
    have HML : Hid (w3.heap.size < (w3.alloc (.map #[] 0)).heap.size) := by show _ < _; simp
    clear hb HB2 HB3
    have hmm := @run_makeMap Tryz.prog
    as_aux_lemma =>
      go_upto_region 8 with (fail)
      clear hmm
      generalize (w3.alloc (.map #[] 0)) = w4 at HM3 HB3a HML ⊢
      generalize w3.heap.size = M at HM3 hM0 HML ⊢
      as_aux_lemma =>
        go_wp2_with fail
        refine (HCL.out _ HB3a.out).mono ?_
        rintro e w5 ⟨vc, rfl, hr, hb⟩
        obtain ⟨B, hB⟩ : ∃ B, B = w4.heap.size := ⟨_, rfl⟩
        rw [← hB] at hr
        have hMB : M < B := by have := HML.out; omega
        have O5 := Lib.hid hr
        have HB5 := Lib.hid (ext_trans HB3a.out hb)
        have HS5 : Hid (SiAt w5 M 0 (idAt (a.take 0))) := HM3.out.below hb
        have hB5 : B ≤ w5.heap.size := by rw [hB]; exact hb.size
        clear hr hb HB3a HM3 HML HC1 HC2 HCL hB
        as_aux_lemma =>
          go_wp2_with fail
          go_loopw [33] (fun it wr => ∃ i : Nat, i ≤ m ∧ it = .int .i64 i ∧ B ≤ wr.heap.size ∧ Hid (SiAt wr M i (idAt (a.take i))) ∧ Hid (VrecRow wr B vc a) ∧ Hid (Below w.heap.size w wr)) (fun it _ => m - (intOf it).toNat)
          case atStart => exact ⟨0, Nat.zero_le _, rfl, hB5, HS5.out, O5.out, HB5.out⟩
          case round =>
            clear HS5 O5 HB5 hB5
            obtain ⟨i, hi, rfl, hB1, HSI, HOC, HB⟩ := hrel
            by_cases hlt : i < m
            case pos =>
              have hin : (i : Int) < (m : Int) := by omega
              have hjl : i < a.length := by have := HM.out; omega
              have hO := own_keep HRA.out HB.out
              obtain ⟨g, rfl, hg0, hgw⟩ := own_pos hO (by omega)
              have d0 := own_field Vrec.cells (fun _ => rfl) hO i 0 default hjl (by omega) rfl
              have d1 := own_field Vrec.cells (fun _ => rfl) hO i 1 default hjl (by omega) rfl
              have d2 := own_field Vrec.cells (fun _ => rfl) hO i 2 default hjl (by omega) rfl
              have d3 := own_field Vrec.cells (fun _ => rfl) hO i 3 default hjl (by omega) rfl
              have d4 := own_field Vrec.cells (fun _ => rfl) hO i 4 default hjl (by omega) rfl
              have d5 := own_field Vrec.cells (fun _ => rfl) hO i 5 default hjl (by omega) rfl
              have d6 := own_field Vrec.cells (fun _ => rfl) hO i 6 default hjl (by omega) rfl
              have d7 := own_field Vrec.cells (fun _ => rfl) hO i 7 default hjl (by omega) rfl
              rw [Nat.add_zero] at d0
              have HIL : Hid ((a.getD i default).id.length ≤ 1000) := by have := (HBA.out _ (rget_mem hjl)).id; show _ ≤ _; omega
              have HSN : Hid ((fun z => if z = (a.getD i default).id then some i else idAt (a.take i) z) = idAt (a.take (i + 1))) := idAt_snoc HIA.out hjl
              obtain ⟨x, hx⟩ : ∃ x, x = a.getD i default := ⟨_, rfl⟩
              rw [← hx] at d0 d1 d2 d3 d4 d5 d6 d7 HIL HSN
              clear hx hO
              obtain ⟨xi, x1, x2, x3, x4, x5, x6, x7⟩ := x
              have hil9 : xi.length ≤ 1000 := HIL.out
              have X1 : Hid (Blk (wr.alloc (.cells #[.string ⟨xi.toArray⟩, .string ⟨x1.toArray⟩, .string ⟨x2.toArray⟩, .int .i64 x3, .int .i64 x4, .int .i64 x5, .int .i64 x6, .string ⟨x7.toArray⟩] 50)) wr.heap.size [.string ⟨xi.toArray⟩, .string ⟨x1.toArray⟩, .string ⟨x2.toArray⟩, .int .i64 x3, .int .i64 x4, .int .i64 x5, .int .i64 x6, .string ⟨x7.toArray⟩] 50) := Blk.new _ _ _
              have hba : Below wr.heap.size wr (wr.alloc (.cells #[.string ⟨xi.toArray⟩, .string ⟨x1.toArray⟩, .string ⟨x2.toArray⟩, .int .i64 x3, .int .i64 x4, .int .i64 x5, .int .i64 x6, .string ⟨x7.toArray⟩] 50)) := ext_alloc (Below.refl _ _)
              have HS1 := Lib.hid (HSI.out.below hba)
              have HB1 := Lib.hid (ext_trans HB.out hba)
              have OC1 : Hid (VrecRow (wr.alloc (.cells #[.string ⟨xi.toArray⟩, .string ⟨x1.toArray⟩, .string ⟨x2.toArray⟩, .int .i64 x3, .int .i64 x4, .int .i64 x5, .int .i64 x6, .string ⟨x7.toArray⟩] 50)) B vc a) := own_keep HOC.out hba
              have HW1 : Hid (wr.heap.size ≤ (wr.alloc (.cells #[.string ⟨xi.toArray⟩, .string ⟨x1.toArray⟩, .string ⟨x2.toArray⟩, .int .i64 x3, .int .i64 x4, .int .i64 x5, .int .i64 x6, .string ⟨x7.toArray⟩] 50)).heap.size) := hba.size
              clear hba HSI HB HOC
              as_aux_lemma =>
                go_upto_region 12 with (fail)
                clear d0 d1 d2 d3 d4 d5 d6 d7
                generalize (wr.alloc (.cells #[.string ⟨xi.toArray⟩, .string ⟨x1.toArray⟩, .string ⟨x2.toArray⟩, .int .i64 x3, .int .i64 x4, .int .i64 x5, .int .i64 x6, .string ⟨x7.toArray⟩] 50)) = w1 at X1 HS1 HB1 OC1 HW1 ⊢
                generalize wr.heap.size = X at X1 HW1 hB1 ⊢
                have c0 := X1.out.cell 0 rfl
                have hw1 : w.heap.size ≤ w1.heap.size := HB1.out.size
                as_aux_lemma =>
                  go_wp2_with (at_mapUpdate; refine wpList_si _ rfl (.tmp 38) (.tmp 40) (.tmp 41) rfl M i _ rfl HS1.out (by simp only [maxLen]; omega) xi rfl i rfl (by omega) hil9 ?_; intro wu hsi hgr; have HSU := Lib.hid hsi; have HGU := Lib.hid hgr; clear hsi hgr; refine Hid.out ?_)
                  refine Lib.hid ?_
                  have HSU2 : Hid (SiAt wu M (i + 1) (idAt (a.take (i + 1)))) := by
                    show SiAt _ _ _ _
                    rw [← HSN.out]
                    exact HSU.out
                  have HBU : Hid (Below w.heap.size w wu) := HB1.out.trans (gb_lowR HGU.out hw1 hM0)
                  have OCU : Hid (VrecRow wu B vc a) := own_gb OC1.out HGU.out (fun b hb e => by injection e with e; have := (World.ownsRow.lt OC1.out b hb).1; omega)
                  have hBu : B ≤ wu.heap.size := Nat.le_trans hB1 (Nat.le_trans HW1.out HGU.out.size)
                  clear HSU HGU X1 HB1 c0 HS1 OC1
                  as_aux_lemma =>
                    go_wp2_with fail
                    go_roundw
                    case rel => exact ⟨i + 1, by omega, by go_num, hBu, HSU2.out, OCU.out, HBU.out⟩
                    case measure => simp [intOf]; omega
            obtain rfl : i = m := by omega
            have hin : ¬ ((i : Int) < (i : Int)) := by omega
            have HMW0 : Hid (MrgW wr B M i (idAt a) vc (.slice none 0 0) (mrgN a b 0).1 (mrgN a b 0).2) := ⟨HOC.out, World.ownsRow_nil _ _ _ _, fun g _ e => (by simp [Value.ownBlock] at e), (by have := HSI.out; rwa [List.take_of_length_le (by have := HM.out; omega)] at this), hMB, hB1⟩
            have HB0 := Lib.hid HB.out
            clear HSI HOC HB HRA HBA hlt hB1
            as_aux_lemma =>
              go_wp2_with fail
              go_loopw [10, 13, 45] (fun vo vd it wx => ∃ j : Nat, j ≤ n ∧ it = .int .i64 j ∧ Hid (MrgW wx B M i (idAt a) vo vd (mrgN a b j).1 (mrgN a b j).2) ∧ Hid (Below w.heap.size w wx)) (fun _ _ it _ => n - (intOf it).toNat)
              case atStart => exact ⟨0, Nat.zero_le _, rfl, HMW0.out, HB0.out⟩
              case round =>
                clear HMW0 HB0
                obtain ⟨j, hj, rfl, HMW, HB⟩ := hrel
                obtain ⟨wx, rfl⟩ : ∃ z : World, z = wr := ⟨_, rfl⟩
                obtain ⟨vo, rfl⟩ : ∃ z : Value, z = u10 := ⟨_, rfl⟩
                obtain ⟨vd, rfl⟩ : ∃ z : Value, z = u13 := ⟨_, rfl⟩
                have HIN := Lib.hid (HINV.out j (by have := HN.out; omega))
                by_cases hltj : j < n
                case pos =>
                  have hin : (j : Int) < (n : Int) := by omega
                  have hjl : j < b.length := by have := HN.out; omega
                  have hO := own_keep HRB.out HB.out
                  obtain ⟨g, rfl, hg0, hgw⟩ := own_pos hO (by omega)
                  have d0 := own_field Vrec.cells (fun _ => rfl) hO j 0 default hjl (by omega) rfl
                  have d1 := own_field Vrec.cells (fun _ => rfl) hO j 1 default hjl (by omega) rfl
                  have d2 := own_field Vrec.cells (fun _ => rfl) hO j 2 default hjl (by omega) rfl
                  have d3 := own_field Vrec.cells (fun _ => rfl) hO j 3 default hjl (by omega) rfl
                  have d4 := own_field Vrec.cells (fun _ => rfl) hO j 4 default hjl (by omega) rfl
                  have d5 := own_field Vrec.cells (fun _ => rfl) hO j 5 default hjl (by omega) rfl
                  have d6 := own_field Vrec.cells (fun _ => rfl) hO j 6 default hjl (by omega) rfl
                  have d7 := own_field Vrec.cells (fun _ => rfl) hO j 7 default hjl (by omega) rfl
                  rw [Nat.add_zero] at d0
                  have HIL : Hid ((b.getD j default).id.length ≤ 1000) := by have := (HBB.out _ (rget_mem hjl)).id; show _ ≤ _; omega
                  have HST : Hid (mrgN a b (j + 1) = mrgStep a (mrgN a b j) (b.getD j default)) := rfl
                  have hol : (mrgN a b j).1.length ≤ 100 := by have := HIN.out.hi; have := HM.out; omega
                  have hdl : (mrgN a b j).2.length ≤ 100 := by have := HIN.out.few; omega
                  have HLO : Hid (a.length ≤ (mrgN a b j).1.length) := HIN.out.lo
                  obtain ⟨x, hx⟩ : ∃ x, x = b.getD j default := ⟨_, rfl⟩
                  rw [← hx] at d0 d1 d2 d3 d4 d5 d6 d7 HIL HST
                  clear hx hO HIN
                  obtain ⟨q, hq⟩ : ∃ q, q = mrgN a b j := ⟨_, rfl⟩
                  rw [← hq] at HMW HST hol hdl HLO
                  clear hq
                  obtain ⟨o, od⟩ := q
                  have HMW : Hid (MrgW wx B M i (idAt a) vo vd o od) := HMW
                  have hol : o.length ≤ 100 := hol
                  have hdl : od.length ≤ 100 := hdl
                  have HLO : Hid (a.length ≤ o.length) := HLO
                  obtain ⟨xi, x1, x2, x3, x4, x5, x6, x7⟩ := x
                  have hil9 : xi.length ≤ 1000 := HIL.out
                  have X1 : Hid (Blk (wx.alloc (.cells #[.string ⟨xi.toArray⟩, .string ⟨x1.toArray⟩, .string ⟨x2.toArray⟩, .int .i64 x3, .int .i64 x4, .int .i64 x5, .int .i64 x6, .string ⟨x7.toArray⟩] 50)) wx.heap.size [.string ⟨xi.toArray⟩, .string ⟨x1.toArray⟩, .string ⟨x2.toArray⟩, .int .i64 x3, .int .i64 x4, .int .i64 x5, .int .i64 x6, .string ⟨x7.toArray⟩] 50) := Blk.new _ _ _
                  have hba : Below wx.heap.size wx (wx.alloc (.cells #[.string ⟨xi.toArray⟩, .string ⟨x1.toArray⟩, .string ⟨x2.toArray⟩, .int .i64 x3, .int .i64 x4, .int .i64 x5, .int .i64 x6, .string ⟨x7.toArray⟩] 50)) := ext_alloc (Below.refl _ _)
                  have HMW1 := Lib.hid (HMW.out.mb hba)
                  have HB1 := Lib.hid (ext_trans HB.out hba)
                  have HXB : Hid (B ≤ wx.heap.size) := HMW.out.room
                  have HXO : Hid (vo.ownBlock ≠ some wx.heap.size ∧ vd.ownBlock ≠ some wx.heap.size) := ⟨fun e => by have := (HMW.out.out.lt _ e).2; omega, fun e => by have := (HMW.out.dif.lt _ e).2; omega⟩
                  clear hba HMW HB
                  have HMW := HMW1
                  clear HMW1
                  as_aux_lemma =>
                    go_upto_region 18 with (fail)
                    clear d0 d1 d2 d3 d4 d5 d6 d7
                    generalize (wx.alloc (.cells #[.string ⟨xi.toArray⟩, .string ⟨x1.toArray⟩, .string ⟨x2.toArray⟩, .int .i64 x3, .int .i64 x4, .int .i64 x5, .int .i64 x6, .string ⟨x7.toArray⟩] 50)) = w1 at X1 HMW HB1 ⊢
                    generalize wx.heap.size = X at X1 HXB HXO ⊢
                    have c0 := X1.out.cell 0 rfl
                    have hw1 : w.heap.size ≤ w1.heap.size := HB1.out.size
                    cases hk : idAt a xi with
                    | none =>
                      have HR : Hid (mrgStep a (o, od) ⟨xi, x1, x2, x3, x4, x5, x6, x7⟩ = (o ++ [⟨xi, x1, x2, x3, x4, x5, x6, x7⟩], od)) := by show _ = _; unfold mrgStep; rw [hk]
                      have HK := Lib.hid hk
                      clear hk
                      have HOA : Hid ((w1.alloc (.cells #[.string ⟨xi.toArray⟩, .string ⟨x1.toArray⟩, .string ⟨x2.toArray⟩, .int .i64 x3, .int .i64 x4, .int .i64 x5, .int .i64 x6, .string ⟨x7.toArray⟩] 50)).ownsRow B 50 8 vo o.length ((o.map Vrec.cells).flatten)) := World.ownsRow.alloc HMW.out.out _
                      have HNA : Hid (Blk (w1.alloc (.cells #[.string ⟨xi.toArray⟩, .string ⟨x1.toArray⟩, .string ⟨x2.toArray⟩, .int .i64 x3, .int .i64 x4, .int .i64 x5, .int .i64 x6, .string ⟨x7.toArray⟩] 50)) w1.heap.size [.string ⟨xi.toArray⟩, .string ⟨x1.toArray⟩, .string ⟨x2.toArray⟩, .int .i64 x3, .int .i64 x4, .int .i64 x5, .int .i64 x6, .string ⟨x7.toArray⟩] 50) := Blk.new _ _ _
                      have hba : Below w1.heap.size w1 (w1.alloc (.cells #[.string ⟨xi.toArray⟩, .string ⟨x1.toArray⟩, .string ⟨x2.toArray⟩, .int .i64 x3, .int .i64 x4, .int .i64 x5, .int .i64 x6, .string ⟨x7.toArray⟩] 50)) := ext_alloc (Below.refl _ _)
                      have HMA := Lib.hid (HMW.out.mb hba)
                      have HBA2 := Lib.hid (ext_trans HB1.out hba)
                      have hroom := HMW.out.room
                      have HRG : Hid (w1.rangeAt X 0 [.string ⟨xi.toArray⟩, .string ⟨x1.toArray⟩, .string ⟨x2.toArray⟩, .int .i64 x3, .int .i64 x4, .int .i64 x5, .int .i64 x6, .string ⟨x7.toArray⟩]) := fun j v hj => by rw [Nat.zero_add]; exact X1.out.cell j hj
                      clear hba
                      as_aux_lemma =>
                        go_wp2_with (first | (at_lookup; refine wpList_siLook _ rfl (.tmp 50) (.tmp 52) rfl M i _ rfl HMW.out.map xi rfl hil9 ?_; rw [HK.out]) | (refine wpList_load_mid rfl 50 (.tmp 15) rfl X 0 rfl [.string ⟨xi.toArray⟩, .string ⟨x1.toArray⟩, .string ⟨x2.toArray⟩, .int .i64 x3, .int .i64 x4, .int .i64 x5, .int .i64 x6, .string ⟨x7.toArray⟩] _ HRG.out Tryz.underlying50 rfl Tryz.recSz ?_) | ((refine wpList_val rfl (bl_rmg0 _ (fun _ => rfl) _ _ 60 ⟨xi.toArray⟩ ⟨x1.toArray⟩ ⟨x2.toArray⟩ x3 x4 x5 x6 ⟨x7.toArray⟩ rfl rfl) ?_)) | (at_builtin; go_loud (refine wpList_append_own_at _ rfl (.tmp 59) (.tmp 61) 33 rfl B 50 i0 (.agg #[.string ⟨#[]⟩, .string ⟨#[]⟩, .string ⟨#[]⟩, .int .i64 0, .int .i64 0, .int .i64 0, .int .i64 0, .string ⟨#[]⟩]) 8 96 Tryz.underlying33 hi0 hz0 hz1 hz2 rfl (by decide) vo o.length _ rfl HOA.out ⟨w1.heap.size, 0, none⟩ 1 1 [.string ⟨xi.toArray⟩, .string ⟨x1.toArray⟩, .string ⟨x2.toArray⟩, .int .i64 x3, .int .i64 x4, .int .i64 x5, .int .i64 x6, .string ⟨x7.toArray⟩] rfl rfl (fun j u hj => by rw [add0]; exact HNA.out.cell j hj) (by intro u hu; simp at hu; rcases hu with rfl | rfl | rfl | rfl | rfl | rfl | rfl | rfl <;> rfl) (by simp only [maxLen]; omega) (by omega) (by simp; omega) ?_); intro vn wx hon hgn _ hat; have HQ1 := Lib.hid hon; have HQ2 := Lib.hid hgn; have HQ3 := Lib.hid hat; clear hon hgn hat HOA HNA HRG; refine Hid.out ?_))
                        refine Lib.hid ?_
                        have HMX : Hid (MrgW wx B M i (idAt a) vn vd (mrgStep a (o, od) ⟨xi, x1, x2, x3, x4, x5, x6, x7⟩).1 (mrgStep a (o, od) ⟨xi, x1, x2, x3, x4, x5, x6, x7⟩).2) := by
                          show MrgW _ _ _ _ _ _ _ _ _
                          rw [HR.out]
                          exact HMA.out.app HQ1.out HQ2.out (HQ3.out)
                        have HBX : Hid (Below w.heap.size w wx) := HBA2.out.grown HQ2.out HBA2.out.size (fun b hb => by have := (HMA.out.out.lt b hb).1; omega)
                        clear HMA HMW HBA2 HB1 HQ1 HQ2 HQ3 X1 c0
                        as_aux_lemma =>
                          go_wp2_with fail
                          go_roundw
                          case rel => exact ⟨j + 1, by omega, by go_num, (by rw [HST.out]; exact HMX.out), HBX.out⟩
                          case measure => simp [intOf]; omega
                    | some ix =>
                      obtain ⟨hixa, hixi⟩ := idAt_some hk
                      have hixo : ix < o.length := by have := HLO.out; omega
                      have HR : Hid (mrgStep a (o, od) ⟨xi, x1, x2, x3, x4, x5, x6, x7⟩ = if o.getD ix default = ⟨xi, x1, x2, x3, x4, x5, x6, x7⟩ then (o, od) else (if recBet ⟨xi, x1, x2, x3, x4, x5, x6, x7⟩ (o.getD ix default) < 0 then o.set ix ⟨xi, x1, x2, x3, x4, x5, x6, x7⟩ else o, od ++ [xi])) := by show _ = _; unfold mrgStep; rw [hk]
                      have HK := Lib.hid hk
                      clear hk hixi
                      obtain ⟨ou, oc, rfl⟩ := own_shape HMW.out.out
                      obtain ⟨g2, rfl, hg20, hg21⟩ := own_pos HMW.out.out (by omega)
                      obtain ⟨y, hy⟩ : ∃ y, y = o.getD ix default := ⟨_, rfl⟩
                      have HY0 : Hid (o.getD ix default = y) := hy.symm
                      rw [← hy] at HR
                      clear hy
                      obtain ⟨yi, y1, y2, y3, y4, y5, y6, y7⟩ := y
                      obtain ⟨on, hon⟩ : ∃ on, on = o.length := ⟨_, rfl⟩
                      have HON := Lib.hid hon
                      have hixi : (ix : Int) < (on : Int) := by omega
                      have hix0 : ¬ ((ix : Int) < 0) := by omega
                      have HMW : Hid (MrgW w1 B M i (idAt a) (.slice (some ⟨g2, 0, none⟩) on oc) vd o od) := by rw [hon]; exact HMW.out
                      have HXO : Hid (g2 ≠ X ∧ vd.ownBlock ≠ some X) := ⟨fun e => HXO.out.1 (by rw [← e]; rfl), HXO.out.2⟩
                      rw [← hon] at ⊢
                      clear hon
                      as_aux_lemma =>
                        go_upto_region 21 with (first | (at_lookup; refine wpList_siLook _ rfl (.tmp 50) (.tmp 52) rfl M i _ rfl HMW.out.map xi rfl hil9 ?_; rw [HK.out]))
                        clear c0
                        have HMD := Lib.hid (HMW.out.mb (ext_drew (Below.refl w1.heap.size w1)))
                        have HBD := Lib.hid (ext_trans HB1.out (ext_drew (Below.refl w1.heap.size w1)))
                        have HXD := Lib.hid (X1.out.below (ext_drew (Below.refl w1.heap.size w1)))
                        have HCE : Hid (∀ W9, Below w1.drew.heap.size w1.drew W9 → (W9.cell? ⟨g2, ix * 8, none⟩ = some (.string ⟨yi.toArray⟩) ∧ W9.cell? ⟨g2, ix * 8 + 1, none⟩ = some (.string ⟨y1.toArray⟩) ∧ W9.cell? ⟨g2, ix * 8 + 2, none⟩ = some (.string ⟨y2.toArray⟩) ∧ W9.cell? ⟨g2, ix * 8 + 3, none⟩ = some (.int .i64 y3) ∧ W9.cell? ⟨g2, ix * 8 + 4, none⟩ = some (.int .i64 y4) ∧ W9.cell? ⟨g2, ix * 8 + 5, none⟩ = some (.int .i64 y5) ∧ W9.cell? ⟨g2, ix * 8 + 6, none⟩ = some (.int .i64 y6) ∧ W9.cell? ⟨g2, ix * 8 + 7, none⟩ = some (.string ⟨y7.toArray⟩)) ∧ (W9.cell? ⟨X, 0, none⟩ = some (.string ⟨xi.toArray⟩) ∧ W9.cell? ⟨X, 1, none⟩ = some (.string ⟨x1.toArray⟩) ∧ W9.cell? ⟨X, 2, none⟩ = some (.string ⟨x2.toArray⟩) ∧ W9.cell? ⟨X, 3, none⟩ = some (.int .i64 x3) ∧ W9.cell? ⟨X, 4, none⟩ = some (.int .i64 x4) ∧ W9.cell? ⟨X, 5, none⟩ = some (.int .i64 x5) ∧ W9.cell? ⟨X, 6, none⟩ = some (.int .i64 x6) ∧ W9.cell? ⟨X, 7, none⟩ = some (.string ⟨x7.toArray⟩))) := fun W9 hW => by
                          have hbd : Below w1.heap.size w1 W9 := ext_trans (ext_drew (Below.refl _ _)) hW
                          have hO9 := own_keep HMW.out.out hbd
                          rw [HON.out] at hO9
                          have hX9 := X1.out.below hbd
                          have f0 := own_field Vrec.cells (fun _ => rfl) hO9 ix 0 default hixo (by decide) rfl
                          rw [HY0.out] at f0
                          have f1 := own_field Vrec.cells (fun _ => rfl) hO9 ix 1 default hixo (by decide) rfl
                          rw [HY0.out] at f1
                          have f2 := own_field Vrec.cells (fun _ => rfl) hO9 ix 2 default hixo (by decide) rfl
                          rw [HY0.out] at f2
                          have f3 := own_field Vrec.cells (fun _ => rfl) hO9 ix 3 default hixo (by decide) rfl
                          rw [HY0.out] at f3
                          have f4 := own_field Vrec.cells (fun _ => rfl) hO9 ix 4 default hixo (by decide) rfl
                          rw [HY0.out] at f4
                          have f5 := own_field Vrec.cells (fun _ => rfl) hO9 ix 5 default hixo (by decide) rfl
                          rw [HY0.out] at f5
                          have f6 := own_field Vrec.cells (fun _ => rfl) hO9 ix 6 default hixo (by decide) rfl
                          rw [HY0.out] at f6
                          have f7 := own_field Vrec.cells (fun _ => rfl) hO9 ix 7 default hixo (by decide) rfl
                          rw [HY0.out] at f7
                          rw [Nat.add_zero] at f0
                          exact ⟨⟨f0, f1, f2, f3, f4, f5, f6, f7⟩, ⟨hX9.cell 0 rfl, hX9.cell 1 rfl, hX9.cell 2 rfl, hX9.cell 3 rfl, hX9.cell 4 rfl, hX9.cell 5 rfl, hX9.cell 6 rfl, hX9.cell 7 rfl⟩⟩
                        clear HMW HB1 X1
                        by_cases hxy : (⟨yi, y1, y2, y3, y4, y5, y6, y7⟩ : Vrec) = ⟨xi, x1, x2, x3, x4, x5, x6, x7⟩
                        case pos =>
                          have HQ : Hid (eqRE ⟨yi, y1, y2, y3, y4, y5, y6, y7⟩ ⟨xi, x1, x2, x3, x4, x5, x6, x7⟩ = true) := by show _ = _; rw [eqRE_iff]; exact decide_eq_true hxy
                          have HMX : Hid (MrgW w1.drew B M i (idAt a) (.slice (some ⟨g2, 0, none⟩) on oc) vd (mrgStep a (o, od) ⟨xi, x1, x2, x3, x4, x5, x6, x7⟩).1 (mrgStep a (o, od) ⟨xi, x1, x2, x3, x4, x5, x6, x7⟩).2) := by
                            show MrgW _ _ _ _ _ _ _ _ _
                            rw [HR.out, if_pos hxy]
                            exact HMD.out
                          clear hxy HMD
                          as_aux_lemma =>
                            refine region_seqI (S := fun W9 => Below w1.drew.heap.size w1.drew W9) [(true, 0), (true, 1), (true, 2), (true, 3), (true, 4), (true, 5), (true, 6)] (by kernel_rfl) (by kernel_rfl) rfl (by kernel_rfl) (Below.refl _ _) ?_
                            generalize w1.drew = wd at HBD HXD HCE HMX ⊢
                            simp only [seqOps, List.getD_cons_zero, List.getD_cons_succ]
                            refine seqI_take (v := .slice (some ⟨g2, 0, none⟩) on oc) rfl (fun W9 hW => by clear hW; go_simp) (fun _ _ _ h => h) ?_
                            simp only [Act.put, List.setIfInBounds_toArray, List.set_cons_zero, List.set_cons_succ]
                            refine seqI_take (v := .int .i64 ix) rfl (fun W9 hW => by clear hW; go_simp) (fun _ _ _ h => h) ?_
                            simp only [Act.put, List.setIfInBounds_toArray, List.set_cons_zero, List.set_cons_succ]
                            refine seqI_take (v := .pointer (some ⟨g2, ix * 8, none⟩)) rfl (fun W9 hW => by clear hW; go_simp) (fun _ _ _ h => h) ?_
                            simp only [Act.put, List.setIfInBounds_toArray, List.set_cons_zero, List.set_cons_succ]
                            refine seqI_take (v := .agg #[.string ⟨yi.toArray⟩, .string ⟨y1.toArray⟩, .string ⟨y2.toArray⟩, .int .i64 y3, .int .i64 y4, .int .i64 y5, .int .i64 y6, .string ⟨y7.toArray⟩]) rfl (fun W9 hW => by obtain ⟨⟨p0, p1, p2, p3, p4, p5, p6, p7⟩, ⟨q0, q1, q2, q3, q4, q5, q6, q7⟩⟩ := HCE.out W9 hW; clear hW; go_simp) (fun _ _ _ h => h) ?_
                            simp only [Act.put, List.setIfInBounds_toArray, List.set_cons_zero, List.set_cons_succ]
                            refine seqI_take (v := .agg #[.string ⟨xi.toArray⟩, .string ⟨x1.toArray⟩, .string ⟨x2.toArray⟩, .int .i64 x3, .int .i64 x4, .int .i64 x5, .int .i64 x6, .string ⟨x7.toArray⟩]) rfl (fun W9 hW => by obtain ⟨⟨p0, p1, p2, p3, p4, p5, p6, p7⟩, ⟨q0, q1, q2, q3, q4, q5, q6, q7⟩⟩ := HCE.out W9 hW; clear hW; go_simp) (fun _ _ _ h => h) ?_
                            simp only [Act.put, List.setIfInBounds_toArray, List.set_cons_zero, List.set_cons_succ]
                            refine seqI_take (v := .bool false) rfl (fun W9 hW => by clear hW; exact (neq_rec _ _ W9 ⟨yi, y1, y2, y3, y4, y5, y6, y7⟩ ⟨xi, x1, x2, x3, x4, x5, x6, x7⟩ rfl rfl rfl).trans (by rw [HQ.out]; rfl)) (fun _ _ _ h => h) ?_
                            simp only [Act.put, List.setIfInBounds_toArray, List.set_cons_zero, List.set_cons_succ]
                            refine seqI_take (v := .bool false) rfl (fun W9 hW => by clear hW; go_simp) (fun _ _ _ h => h) ?_
                            simp only [Act.put, List.setIfInBounds_toArray, List.set_cons_zero, List.set_cons_succ]
                            refine seqI_nil ?_
                            have HBX := HBD
                            clear HXD HCE
                            rw [HON.out] at HMX ⊢
                            as_aux_lemma =>
                              go_wp2_with fail
                              go_roundw
                              case rel => exact ⟨j + 1, by omega, by go_num, (by rw [HST.out]; exact HMX.out), HBX.out⟩
                              case measure => simp [intOf]; omega
                        have HQ : Hid (eqRE ⟨yi, y1, y2, y3, y4, y5, y6, y7⟩ ⟨xi, x1, x2, x3, x4, x5, x6, x7⟩ = false) := by show _ = _; rw [eqRE_iff]; exact decide_eq_false hxy
                        have HRX : Hid (mrgStep a (o, od) ⟨xi, x1, x2, x3, x4, x5, x6, x7⟩ = (if recBet ⟨xi, x1, x2, x3, x4, x5, x6, x7⟩ ⟨yi, y1, y2, y3, y4, y5, y6, y7⟩ < 0 then o.set ix ⟨xi, x1, x2, x3, x4, x5, x6, x7⟩ else o, od ++ [xi])) := by show _ = _; rw [HR.out, if_neg hxy]
                        clear hxy HR
                        as_aux_lemma =>
                          refine region_seqI (S := fun W9 => Below w1.drew.heap.size w1.drew W9) [(true, 0), (true, 1), (true, 2), (true, 3), (true, 4), (true, 5), (true, 6)] (by kernel_rfl) (by kernel_rfl) rfl (by kernel_rfl) (Below.refl _ _) ?_
                          generalize w1.drew = wd at HBD HXD HCE HMD ⊢
                          simp only [seqOps, List.getD_cons_zero, List.getD_cons_succ]
                          refine seqI_take (v := .slice (some ⟨g2, 0, none⟩) on oc) rfl (fun W9 hW => by clear hW; go_simp) (fun _ _ _ h => h) ?_
                          simp only [Act.put, List.setIfInBounds_toArray, List.set_cons_zero, List.set_cons_succ]
                          refine seqI_take (v := .int .i64 ix) rfl (fun W9 hW => by clear hW; go_simp) (fun _ _ _ h => h) ?_
                          simp only [Act.put, List.setIfInBounds_toArray, List.set_cons_zero, List.set_cons_succ]
                          refine seqI_take (v := .pointer (some ⟨g2, ix * 8, none⟩)) rfl (fun W9 hW => by clear hW; go_simp) (fun _ _ _ h => h) ?_
                          simp only [Act.put, List.setIfInBounds_toArray, List.set_cons_zero, List.set_cons_succ]
                          refine seqI_take (v := .agg #[.string ⟨yi.toArray⟩, .string ⟨y1.toArray⟩, .string ⟨y2.toArray⟩, .int .i64 y3, .int .i64 y4, .int .i64 y5, .int .i64 y6, .string ⟨y7.toArray⟩]) rfl (fun W9 hW => by obtain ⟨⟨p0, p1, p2, p3, p4, p5, p6, p7⟩, ⟨q0, q1, q2, q3, q4, q5, q6, q7⟩⟩ := HCE.out W9 hW; clear hW; go_simp) (fun _ _ _ h => h) ?_
                          simp only [Act.put, List.setIfInBounds_toArray, List.set_cons_zero, List.set_cons_succ]
                          refine seqI_take (v := .agg #[.string ⟨xi.toArray⟩, .string ⟨x1.toArray⟩, .string ⟨x2.toArray⟩, .int .i64 x3, .int .i64 x4, .int .i64 x5, .int .i64 x6, .string ⟨x7.toArray⟩]) rfl (fun W9 hW => by obtain ⟨⟨p0, p1, p2, p3, p4, p5, p6, p7⟩, ⟨q0, q1, q2, q3, q4, q5, q6, q7⟩⟩ := HCE.out W9 hW; clear hW; go_simp) (fun _ _ _ h => h) ?_
                          simp only [Act.put, List.setIfInBounds_toArray, List.set_cons_zero, List.set_cons_succ]
                          refine seqI_take (v := .bool true) rfl (fun W9 hW => by clear hW; exact (neq_rec _ _ W9 ⟨yi, y1, y2, y3, y4, y5, y6, y7⟩ ⟨xi, x1, x2, x3, x4, x5, x6, x7⟩ rfl rfl rfl).trans (by rw [HQ.out]; rfl)) (fun _ _ _ h => h) ?_
                          simp only [Act.put, List.setIfInBounds_toArray, List.set_cons_zero, List.set_cons_succ]
                          refine seqI_take (v := .bool true) rfl (fun W9 hW => by clear hW; go_simp) (fun _ _ _ h => h) ?_
                          simp only [Act.put, List.setIfInBounds_toArray, List.set_cons_zero, List.set_cons_succ]
                          refine seqI_nil ?_
                          have c0 := HXD.out.cell 0 rfl
                          have HOA : Hid ((wd.alloc (.cells #[.string ⟨xi.toArray⟩] 9)).ownsRow B 9 1 vd od.length (od.map encS)) := World.ownsRow.alloc HMD.out.dif _
                          have HNA : Hid (Blk (wd.alloc (.cells #[.string ⟨xi.toArray⟩] 9)) wd.heap.size [.string ⟨xi.toArray⟩] 9) := Blk.new _ _ _
                          have hba : Below wd.heap.size wd (wd.alloc (.cells #[.string ⟨xi.toArray⟩] 9)) := ext_alloc (Below.refl _ _)
                          have HMA := Lib.hid (HMD.out.mb hba)
                          have HXA := Lib.hid (HXD.out.below hba)
                          have HBA2 := Lib.hid (ext_trans HBD.out hba)
                          have hroom := HMD.out.room
                          clear hba HQ HCE
                          as_aux_lemma =>
                            go_wp2_with (first | ((refine wpList_val rfl (bl_rmg1 _ (fun _ => rfl) _ _ 72 ⟨xi.toArray⟩ rfl rfl) ?_)) | (at_builtin; go_loud (refine wpList_append_own_at _ rfl (.tmp 70) (.tmp 73) 27 rfl B 9 s0 (.string ⟨#[]⟩) 1 16 Tryz.underlying27 hs0 sz0 sz1 sz2 rfl (by decide) vd od.length _ rfl HOA.out ⟨wd.heap.size, 0, none⟩ 1 1 [.string ⟨xi.toArray⟩] rfl rfl (fun j u hj => by rw [add0]; exact HNA.out.cell j hj) (by simp [Value.oneCell']) (by simp only [maxLen]; omega) (by omega) (by simp; omega) ?_); intro vn wx2 hon2 hgn _ hat; have HQ1 := Lib.hid hon2; have HQ2 := Lib.hid hgn; have HQ3 := Lib.hid hat; clear hon2 hgn hat HOA HNA; refine Hid.out ?_))
                            refine Lib.hid ?_
                            clear c0
                            have HMW : Hid (MrgW wx2 B M i (idAt a) (.slice (some ⟨g2, 0, none⟩) on oc) vn o (od ++ [xi])) := HMA.out.dfr HQ1.out HQ2.out HQ3.out
                            have HB1 : Hid (Below w.heap.size w wx2) := HBA2.out.grown HQ2.out HBA2.out.size (fun b hb => by have := (HMA.out.dif.lt b hb).1; omega)
                            have X1 : Hid (Blk wx2 X [.string ⟨xi.toArray⟩, .string ⟨x1.toArray⟩, .string ⟨x2.toArray⟩, .int .i64 x3, .int .i64 x4, .int .i64 x5, .int .i64 x6, .string ⟨x7.toArray⟩] 50) := HXA.out.grown HQ2.out HXO.out.2
                            clear HMA HBA2 HXA HQ1 HQ2 HQ3 HMD HBD HXD
                            as_aux_lemma =>
                              go_upto_region 23 with (fail)
                              have HMD := Lib.hid (HMW.out.mb (ext_drew (Below.refl wx2.heap.size wx2)))
                              have HBD := Lib.hid (ext_trans HB1.out (ext_drew (Below.refl wx2.heap.size wx2)))
                              have HXD := Lib.hid (X1.out.below (ext_drew (Below.refl wx2.heap.size wx2)))
                              have HCE : Hid (∀ W9, Below wx2.drew.heap.size wx2.drew W9 → (W9.cell? ⟨g2, ix * 8, none⟩ = some (.string ⟨yi.toArray⟩) ∧ W9.cell? ⟨g2, ix * 8 + 1, none⟩ = some (.string ⟨y1.toArray⟩) ∧ W9.cell? ⟨g2, ix * 8 + 2, none⟩ = some (.string ⟨y2.toArray⟩) ∧ W9.cell? ⟨g2, ix * 8 + 3, none⟩ = some (.int .i64 y3) ∧ W9.cell? ⟨g2, ix * 8 + 4, none⟩ = some (.int .i64 y4) ∧ W9.cell? ⟨g2, ix * 8 + 5, none⟩ = some (.int .i64 y5) ∧ W9.cell? ⟨g2, ix * 8 + 6, none⟩ = some (.int .i64 y6) ∧ W9.cell? ⟨g2, ix * 8 + 7, none⟩ = some (.string ⟨y7.toArray⟩)) ∧ (W9.cell? ⟨X, 0, none⟩ = some (.string ⟨xi.toArray⟩) ∧ W9.cell? ⟨X, 1, none⟩ = some (.string ⟨x1.toArray⟩) ∧ W9.cell? ⟨X, 2, none⟩ = some (.string ⟨x2.toArray⟩) ∧ W9.cell? ⟨X, 3, none⟩ = some (.int .i64 x3) ∧ W9.cell? ⟨X, 4, none⟩ = some (.int .i64 x4) ∧ W9.cell? ⟨X, 5, none⟩ = some (.int .i64 x5) ∧ W9.cell? ⟨X, 6, none⟩ = some (.int .i64 x6) ∧ W9.cell? ⟨X, 7, none⟩ = some (.string ⟨x7.toArray⟩))) := fun W9 hW => by
                                have hbd : Below wx2.heap.size wx2 W9 := ext_trans (ext_drew (Below.refl _ _)) hW
                                have hO9 := own_keep HMW.out.out hbd
                                rw [HON.out] at hO9
                                have hX9 := X1.out.below hbd
                                have f0 := own_field Vrec.cells (fun _ => rfl) hO9 ix 0 default hixo (by decide) rfl
                                rw [HY0.out] at f0
                                have f1 := own_field Vrec.cells (fun _ => rfl) hO9 ix 1 default hixo (by decide) rfl
                                rw [HY0.out] at f1
                                have f2 := own_field Vrec.cells (fun _ => rfl) hO9 ix 2 default hixo (by decide) rfl
                                rw [HY0.out] at f2
                                have f3 := own_field Vrec.cells (fun _ => rfl) hO9 ix 3 default hixo (by decide) rfl
                                rw [HY0.out] at f3
                                have f4 := own_field Vrec.cells (fun _ => rfl) hO9 ix 4 default hixo (by decide) rfl
                                rw [HY0.out] at f4
                                have f5 := own_field Vrec.cells (fun _ => rfl) hO9 ix 5 default hixo (by decide) rfl
                                rw [HY0.out] at f5
                                have f6 := own_field Vrec.cells (fun _ => rfl) hO9 ix 6 default hixo (by decide) rfl
                                rw [HY0.out] at f6
                                have f7 := own_field Vrec.cells (fun _ => rfl) hO9 ix 7 default hixo (by decide) rfl
                                rw [HY0.out] at f7
                                rw [Nat.add_zero] at f0
                                exact ⟨⟨f0, f1, f2, f3, f4, f5, f6, f7⟩, ⟨hX9.cell 0 rfl, hX9.cell 1 rfl, hX9.cell 2 rfl, hX9.cell 3 rfl, hX9.cell 4 rfl, hX9.cell 5 rfl, hX9.cell 6 rfl, hX9.cell 7 rfl⟩⟩
                              have HBT : Hid (∀ W, Calls Tryz.prog 53 #[.agg #[.string ⟨xi.toArray⟩, .string ⟨x1.toArray⟩, .string ⟨x2.toArray⟩, .int .i64 x3, .int .i64 x4, .int .i64 x5, .int .i64 x6, .string ⟨x7.toArray⟩], .agg #[.string ⟨yi.toArray⟩, .string ⟨y1.toArray⟩, .string ⟨y2.toArray⟩, .int .i64 y3, .int .i64 y4, .int .i64 y5, .int .i64 y6, .string ⟨y7.toArray⟩]] W (BoolP (decide (recBet ⟨xi, x1, x2, x3, x4, x5, x6, x7⟩ ⟨yi, y1, y2, y3, y4, y5, y6, y7⟩ < 0)) W)) := fun W => recBet_any ⟨xi, x1, x2, x3, x4, x5, x6, x7⟩ ⟨yi, y1, y2, y3, y4, y5, y6, y7⟩ W
                              clear HMW HB1 X1
                              generalize recBet ⟨xi, x1, x2, x3, x4, x5, x6, x7⟩ ⟨yi, y1, y2, y3, y4, y5, y6, y7⟩ = rb at HBT HRX
                              as_aux_lemma =>
                                refine region_seqI (S := fun W9 => Below wx2.drew.heap.size wx2.drew W9) [(true, 0), (true, 1), (true, 2), (true, 3), (true, 4), (false, 5)] (by kernel_rfl) (by kernel_rfl) rfl (by kernel_rfl) (Below.refl _ _) ?_
                                generalize wx2.drew = wd at HBD HXD HCE HMD ⊢
                                simp only [seqOps, List.getD_cons_zero, List.getD_cons_succ]
                                refine seqI_take (v := .agg #[.string ⟨xi.toArray⟩, .string ⟨x1.toArray⟩, .string ⟨x2.toArray⟩, .int .i64 x3, .int .i64 x4, .int .i64 x5, .int .i64 x6, .string ⟨x7.toArray⟩]) rfl (fun W9 hW => by obtain ⟨⟨p0, p1, p2, p3, p4, p5, p6, p7⟩, ⟨q0, q1, q2, q3, q4, q5, q6, q7⟩⟩ := HCE.out W9 hW; clear hW; go_simp) (fun _ _ _ h => h) ?_
                                simp only [Act.put, List.setIfInBounds_toArray, List.set_cons_zero, List.set_cons_succ]
                                refine seqI_take (v := .slice (some ⟨g2, 0, none⟩) on oc) rfl (fun W9 hW => by clear hW; go_simp) (fun _ _ _ h => h) ?_
                                simp only [Act.put, List.setIfInBounds_toArray, List.set_cons_zero, List.set_cons_succ]
                                refine seqI_take (v := .int .i64 ix) rfl (fun W9 hW => by clear hW; go_simp) (fun _ _ _ h => h) ?_
                                simp only [Act.put, List.setIfInBounds_toArray, List.set_cons_zero, List.set_cons_succ]
                                refine seqI_take (v := .pointer (some ⟨g2, ix * 8, none⟩)) rfl (fun W9 hW => by clear hW; go_simp) (fun _ _ _ h => h) ?_
                                simp only [Act.put, List.setIfInBounds_toArray, List.set_cons_zero, List.set_cons_succ]
                                refine seqI_take (v := .agg #[.string ⟨yi.toArray⟩, .string ⟨y1.toArray⟩, .string ⟨y2.toArray⟩, .int .i64 y3, .int .i64 y4, .int .i64 y5, .int .i64 y6, .string ⟨y7.toArray⟩]) rfl (fun W9 hW => by obtain ⟨⟨p0, p1, p2, p3, p4, p5, p6, p7⟩, ⟨q0, q1, q2, q3, q4, q5, q6, q7⟩⟩ := HCE.out W9 hW; clear hW; go_simp) (fun _ _ _ h => h) ?_
                                simp only [Act.put, List.setIfInBounds_toArray, List.set_cons_zero, List.set_cons_succ]
                                refine seqI_call _ _ rfl (by go_simp) (HBT.out wd) ?_
                                rintro e w9 ⟨rfl, hb⟩
                                have HM9 := Lib.hid (HMD.out.mb hb)
                                have HB9 := Lib.hid (ext_trans HBD.out hb)
                                have HX9 := Lib.hid (HXD.out.below hb)
                                refine ⟨_, rfl, hb, ?_⟩
                                simp only [Act.put, List.setIfInBounds_toArray, List.set_cons_zero, List.set_cons_succ]
                                refine seqI_nil ?_
                                clear hb HCE HMD HBD HXD HBT
                                by_cases hrb : rb < 0
                                case neg =>
                                  have hrd : decide (rb < 0) = false := decide_eq_false hrb
                                  have HMX : Hid (MrgW w9 B M i (idAt a) (.slice (some ⟨g2, 0, none⟩) o.length oc) vn (mrgStep a (o, od) ⟨xi, x1, x2, x3, x4, x5, x6, x7⟩).1 (mrgStep a (o, od) ⟨xi, x1, x2, x3, x4, x5, x6, x7⟩).2) := by
                                    show MrgW _ _ _ _ _ _ _ _ _
                                    rw [HRX.out, if_neg hrb, ← HON.out]
                                    exact HM9.out
                                  have HBX := HB9
                                  clear HM9 HB9 HX9 HRX
                                  rw [hrd, HON.out]
                                  clear hrd hrb
                                  as_aux_lemma =>
                                    go_wp2_with fail
                                    go_roundw
                                    case rel => exact ⟨j + 1, by omega, by go_num, (by rw [HST.out]; exact HMX.out), HBX.out⟩
                                    case measure => simp [intOf]; omega
                                have hrd : decide (rb < 0) = true := decide_eq_true hrb
                                have HMX : Hid (MrgW (w9.setCells g2 (ix * 8) [.string ⟨xi.toArray⟩, .string ⟨x1.toArray⟩, .string ⟨x2.toArray⟩, .int .i64 x3, .int .i64 x4, .int .i64 x5, .int .i64 x6, .string ⟨x7.toArray⟩]) B M i (idAt a) (.slice (some ⟨g2, 0, none⟩) o.length oc) vn (mrgStep a (o, od) ⟨xi, x1, x2, x3, x4, x5, x6, x7⟩).1 (mrgStep a (o, od) ⟨xi, x1, x2, x3, x4, x5, x6, x7⟩).2) := by
                                  show MrgW _ _ _ _ _ _ _ _ _
                                  rw [HRX.out, if_pos hrb]
                                  have h9 : MrgW w9 B M i (idAt a) (.slice (some ⟨g2, 0, none⟩) o.length oc) vn o (od ++ [xi]) := by rw [← HON.out]; exact HM9.out
                                  exact h9.put ix hixo ⟨xi, x1, x2, x3, x4, x5, x6, x7⟩
                                have HBX : Hid (Below w.heap.size w (w9.setCells g2 (ix * 8) [.string ⟨xi.toArray⟩, .string ⟨x1.toArray⟩, .string ⟨x2.toArray⟩, .int .i64 x3, .int .i64 x4, .int .i64 x5, .int .i64 x6, .string ⟨x7.toArray⟩])) := HB9.out.grown (setCells_gb g2 _ _) HB9.out.size (fun b hb => by injection hb with hb; omega)
                                have HTH : Hid (w9.there g2 (ix * 8) 8) := fun q hq => by
                                  have hf := flat_length Vrec.cells 8 (fun _ => rfl) o
                                  have h9o := HM9.out.out
                                  rw [HON.out] at h9o
                                  refine ⟨?_, h9o.frozenAt _⟩
                                  rw [h9o.cellAt (ix * 8 + q) (by omega), List.getElem?_eq_getElem (by rw [hf]; omega)]
                                  rfl
                                have HRG : Hid (w9.rangeAt X 0 [.string ⟨xi.toArray⟩, .string ⟨x1.toArray⟩, .string ⟨x2.toArray⟩, .int .i64 x3, .int .i64 x4, .int .i64 x5, .int .i64 x6, .string ⟨x7.toArray⟩]) := fun j v hj => by rw [Nat.zero_add]; exact HX9.out.cell j hj
                                rw [hrd]
                                clear HM9 HB9 HX9 HRX hrd hrb
                                as_aux_lemma =>
                                  go_upto_region 25 with (first | (refine wpList_load_mid rfl 50 (.tmp 15) rfl X 0 rfl [.string ⟨xi.toArray⟩, .string ⟨x1.toArray⟩, .string ⟨x2.toArray⟩, .int .i64 x3, .int .i64 x4, .int .i64 x5, .int .i64 x6, .string ⟨x7.toArray⟩] _ HRG.out Tryz.underlying50 rfl Tryz.recSz ?_) | (refine wpList_store_mid rfl 50 (.tmp 84) (.tmp 83) rfl g2 (ix * 8) #[.string ⟨xi.toArray⟩, .string ⟨x1.toArray⟩, .string ⟨x2.toArray⟩, .int .i64 x3, .int .i64 x4, .int .i64 x5, .int .i64 x6, .string ⟨x7.toArray⟩] rfl rfl HTH.out Tryz.recSz (by simp [Value.oneCell']) ?_; generalize w9.setCells g2 (ix * 8) [.string ⟨xi.toArray⟩, .string ⟨x1.toArray⟩, .string ⟨x2.toArray⟩, .int .i64 x3, .int .i64 x4, .int .i64 x5, .int .i64 x6, .string ⟨x7.toArray⟩] = wz at HMX HBX ⊢; clear HTH HRG))
                                  rw [HON.out]
                                  as_aux_lemma =>
                                    go_wp2_with fail
                                    go_roundw
                                    case rel => exact ⟨j + 1, by omega, by go_num, (by rw [HST.out]; exact HMX.out), HBX.out⟩
                                    case measure => simp [intOf]; omega
                obtain rfl : j = n := by omega
                have hjn : ¬ ((j : Int) < (j : Int)) := by omega
                have hol : (mrgN a b j).1.length ≤ 100 := by have := HIN.out.hi; have := HM.out; omega
                have hdl : (mrgN a b j).2.length ≤ 100 := by have := HIN.out.few; omega
                have HNJ : Hid (j = b.length) := HN.out
                have hwB : w.heap.size ≤ B := by omega
                have HSF := Lib.hid (swR_any wx B vo _ (show VrecRow wx B vo (mrgN a b j).1 from HMW.out.out) (by omega))
                obtain ⟨oa, oc, rfl⟩ := own_shape HMW.out.out
                obtain ⟨da, dc, rfl⟩ := own_shape HMW.out.dif
                have hon0 : ¬ (3000 : Int) < ((mrgN a b j).1.length : Int) := by omega
                have HIDA : Hid (∀ x, x.Perm (mrgN a b j).1 → x.Pairwise (fun p q => ltOf recCmp q p = false) → MrgD a b x ((mrgN a b j).2.mergeSort leB)) := fun x hp hs => by
                  have e := HNJ.out
                  rw [e] at hp ⊢
                  exact MrgD.make HIA.out HIB.out hp hs
                have HLM : Hid ((mrgN a b j).2.length ≤ 100) := hdl
                obtain ⟨q, hq⟩ : ∃ q, q = mrgN a b j := ⟨_, rfl⟩
                rw [← hq] at HMW HSF hol hdl HIDA hon0 ⊢
                clear hq HIN HINV HRB HBB
                obtain ⟨o, od⟩ := q
                have HMW : Hid (MrgW wx B M i (idAt a) (.slice oa o.length oc) (.slice da od.length dc) o od) := HMW
                have HIDA : Hid (∀ x, x.Perm o → x.Pairwise (fun p q => ltOf recCmp q p = false) → MrgD a b x (od.mergeSort leB)) := HIDA
                have HSF : Hid (Calls Tryz.prog 54 #[.slice oa o.length oc, .func (.func 55) #[] #[]] wx (swRPost B (.slice oa o.length oc) o wx)) := HSF
                have hdl : od.length ≤ 100 := hdl
                as_aux_lemma =>
                  go_wp2_with fail
                  refine HSF.out.mono ?_
                  rintro e w8 ⟨ys, rfl, hr, hg, hp, hs⟩
                  have HY8 := Lib.hid hr
                  have HD8 : Hid (w8.ownsRow B 9 1 (.slice da od.length dc) od.length (od.map encS)) := own_gb HMW.out.dif hg (fun b hb e => HMW.out.apart b e hb)
                  have HB8 : Hid (Below w.heap.size w w8) := HB.out.grown hg HB.out.size (fun b hb => by have := (HMW.out.out.lt b hb).1; omega)
                  have HFD := Lib.hid (HIDA.out ys hp hs)
                  have HAP : Hid (∀ g, (Value.slice oa o.length oc).ownBlock = some g → (Value.slice da od.length dc).ownBlock ≠ some g) := HMW.out.apart
                  have HSD := Lib.hid (sort_own HD8.out (by omega))
                  clear hr hg hp hs HSF HB HMW HIDA
                  as_aux_lemma =>
                    go_wp2_with fail
                    refine HSD.out.mono ?_
                    rintro e w9 ⟨rfl, hr, hg⟩
                    have HE : Hid (MergeR a b w (.returned (.tuple #[.slice oa o.length oc, .slice da od.length dc, .int .i64 0])) w9) := ⟨_, _, ys, od.mergeSort leB, rfl, own_le (own_gb HY8.out hg (fun b hb e => HAP.out b hb e)) hwB, by rw [List.length_mergeSort]; exact own_le hr hwB, HFD.out, HB8.out.grown hg HB8.out.size (fun b hb => by have := (HD8.out.lt b hb).1; omega)⟩
                    clear hr hg HSD HY8 HD8 HB8 HFD
                    as_aux_lemma =>
                      go_wp2_with fail
                      go_ret3
                      exact HE.out
end Go.Proofs.YtleagenhnchjdaaGreatDoor
