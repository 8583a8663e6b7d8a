/- What is proved here: lemmas and contracts for the statement, put together out of smaller texts (ActDrw, JnBld). No condition beyond those stated. -/
import Derived.Test.YtamoclofloijpaaGreatDoorPtPkE
import Derived.Test.YtamoclofloijpaaGreatDoorPtPkF
import Derived.Test.YtamoclofloijpaaGreatDoorPtPkC
import Derived.Test.YtamoclofloijpaaGreatDoorShelfJoin
import Derived.Test.YtamoclofloijpaaGreatDoorPtPkA
import Derived.Test.YtamoclofloijpaaGreatDoorPtPkD
import Derived.Test.YtamoclofloijpaaGreatDoorShelfTxt
set_option linter.unusedVariables false
set_option linter.unusedSimpArgs false
namespace Go.Proofs.YtamoclofloijpaaGreatDoor
open Go.RowKit Go.Sort Go.Lib

theorem stream_setQ {w : World} {S k Q i : Nat} {u : Value} (h : StreamOk w S k) (hQ : S < Q) : StreamOk (w.setCell ⟨Q, i, none⟩ u) S k := h.upto ⟨rfl, rfl, rfl, by simp, fun j hj => Below.heap_setCell _ _ _ _ (by show j ≠ Q; omega)⟩
theorem gb_set (w : World) (Q i : Nat) (u : Value) : w.grownBy (w.setCell ⟨Q, i, none⟩ u) (some Q) := ⟨rfl, rfl, rfl, by simp, fun j hj hn => Below.heap_setCell _ _ _ _ (by show j ≠ Q; rintro rfl; exact hn rfl)⟩
theorem own_set1 {w : World} {Q i base e size : Nat} {u v : Value} {n : Nat} {xs : List Value} (h : w.ownsRow base e size v n xs) (hn : v.ownBlock ≠ some Q) : (w.setCell ⟨Q, i, none⟩ u).ownsRow base e size v n xs := own_gb h (gb_set w Q i u) (fun b hb e => hn (by rw [hb, e]))
def ActsP (S k m : Nat) (w : World) (e : Ending) (w' : World) : Prop := ∃ v l, e = .returned v ∧ VactRow w' w.heap.size v l ∧ l.length ≤ m ∧ (∀ a ∈ l, ActB a) ∧ StreamOk w' S k ∧ Keeps S w w'
theorem build_act (e : Operand → Value) (o : Oper) (w : World) (z0 : Int) (p1 : ByteArray) (p2 : ByteArray) (z3 : Int) (ho : o.op = .build 45 #[(0, .tmp 16), (1, .tmp 19), (2, .tmp 22), (3, .tmp 25)]) (h0 : e (.tmp 16) = .int .i64 z0) (h1 : e (.tmp 19) = .string p1) (h2 : e (.tmp 22) = .string p2) (h3 : e (.tmp 25) = .int .i64 z3) :
   (execOp e o).run Tryz.prog w = .ok (.value (.agg #[.int .i64 z0, .string p1, .string p2, .int .i64 z3, .int .i64 0, .string ⟨#[]⟩])) w := by
  unfold execOp
  rw [ho]
  simp only [List.map_toArray, List.map_cons, List.map_nil, h0, h1, h2, h3]
  kernel_rfl
theorem bl_act0 (e : Operand → Value) (he : ∀ v, e (.const v) = v) (o : Oper) (w : World)  (z0 : Int) (z1 : Int) (z2 : Int) (z3 : Int) (z4 : Int) (z5 : Int) (z6 : Int) (ho : o.op = .buildSlice 22 7 #[(0, .const (.int .i64 z0)), (1, .const (.int .i64 z1)), (2, .const (.int .i64 z2)), (3, .const (.int .i64 z3)), (4, .const (.int .i64 z4)), (5, .const (.int .i64 z5)), (6, .const (.int .i64 z6))])  :
   (execOp e o).run Tryz.prog w = .ok (.value (.slice (some ⟨w.heap.size, 0, none⟩) 7 7)) (w.alloc (.cells #[.int .i64 z0, .int .i64 z1, .int .i64 z2, .int .i64 z3, .int .i64 z4, .int .i64 z5, .int .i64 z6] 3)) := by
  unfold execOp
  rw [ho]
  simp only [List.map_toArray, List.map_cons, List.map_nil, he]
  kernel_rfl
theorem bl_act1 (e : Operand → Value) (he : ∀ v, e (.const v) = v) (o : Oper) (w : World)  (p0 : ByteArray) (p1 : ByteArray) (p2 : ByteArray) (p3 : ByteArray) (ho : o.op = .buildSlice 82 4 #[(0, .const (.string p0)), (1, .const (.string p1)), (2, .const (.string p2)), (3, .const (.string p3))])  :
   (execOp e o).run Tryz.prog w = .ok (.value (.slice (some ⟨w.heap.size, 0, none⟩) 4 4)) (w.alloc (.cells #[.string p0, .string p1, .string p2, .string p3] 9)) := by
  unfold execOp
  rw [ho]
  simp only [List.map_toArray, List.map_cons, List.map_nil, he]
  kernel_rfl
theorem bl_act2 (e : Operand → Value) (he : ∀ v, e (.const v) = v) (o : Oper) (w : World)  (p0 : ByteArray) (p1 : ByteArray) (p2 : ByteArray) (ho : o.op = .buildSlice 82 3 #[(0, .const (.string p0)), (1, .const (.string p1)), (2, .const (.string p2))])  :
   (execOp e o).run Tryz.prog w = .ok (.value (.slice (some ⟨w.heap.size, 0, none⟩) 3 3)) (w.alloc (.cells #[.string p0, .string p1, .string p2] 9)) := by
  unfold execOp
  rw [ho]
  simp only [List.map_toArray, List.map_cons, List.map_nil, he]
  kernel_rfl
theorem bl_act3 (e : Operand → Value) (he : ∀ v, e (.const v) = v) (o : Oper) (w : World)  (z0 : Int) (z1 : Int) (z2 : Int) (z3 : Int) (z4 : Int) (z5 : Int) (z6 : Int) (z7 : Int) (ho : o.op = .buildSlice 22 8 #[(0, .const (.int .i64 z0)), (1, .const (.int .i64 z1)), (2, .const (.int .i64 z2)), (3, .const (.int .i64 z3)), (4, .const (.int .i64 z4)), (5, .const (.int .i64 z5)), (6, .const (.int .i64 z6)), (7, .const (.int .i64 z7))])  :
   (execOp e o).run Tryz.prog w = .ok (.value (.slice (some ⟨w.heap.size, 0, none⟩) 8 8)) (w.alloc (.cells #[.int .i64 z0, .int .i64 z1, .int .i64 z2, .int .i64 z3, .int .i64 z4, .int .i64 z5, .int .i64 z6, .int .i64 z7] 3)) := by
  unfold execOp
  rw [ho]
  simp only [List.map_toArray, List.map_cons, List.map_nil, he]
  kernel_rfl
theorem bl_act4 (e : Operand → Value) (he : ∀ v, e (.const v) = v) (o : Oper) (w : World) (i0 : Nat) (z0_0 : Int) (p0_1 : ByteArray) (p0_2 : ByteArray) (z0_3 : Int) (z0_4 : Int) (p0_5 : ByteArray) (ho : o.op = .buildSlice 42 1 #[(0, .tmp i0)]) (h0 : e (.tmp i0) = .agg #[.int .i64 z0_0, .string p0_1, .string p0_2, .int .i64 z0_3, .int .i64 z0_4, .string p0_5]) :
   (execOp e o).run Tryz.prog w = .ok (.value (.slice (some ⟨w.heap.size, 0, none⟩) 1 1)) (w.alloc (.cells #[.int .i64 z0_0, .string p0_1, .string p0_2, .int .i64 z0_3, .int .i64 z0_4, .string p0_5] 45)) := by
  unfold execOp
  rw [ho]
  simp only [List.map_toArray, List.map_cons, List.map_nil, h0]
  kernel_rfl
theorem bl_act5 (e : Operand → Value) (he : ∀ v, e (.const v) = v) (o : Oper) (w : World)  (p0 : ByteArray) (p1 : ByteArray) (ho : o.op = .buildSlice 82 2 #[(0, .const (.string p0)), (1, .const (.string p1))])  :
   (execOp e o).run Tryz.prog w = .ok (.value (.slice (some ⟨w.heap.size, 0, none⟩) 2 2)) (w.alloc (.cells #[.string p0, .string p1] 9)) := by
  unfold execOp
  rw [ho]
  simp only [List.map_toArray, List.map_cons, List.map_nil, he]
  kernel_rfl
theorem bl_act6 (e : Operand → Value) (he : ∀ v, e (.const v) = v) (o : Oper) (w : World)  (z0 : Int) (z1 : Int) (z2 : Int) (ho : o.op = .buildSlice 22 3 #[(0, .const (.int .i64 z0)), (1, .const (.int .i64 z1)), (2, .const (.int .i64 z2))])  :
   (execOp e o).run Tryz.prog w = .ok (.value (.slice (some ⟨w.heap.size, 0, none⟩) 3 3)) (w.alloc (.cells #[.int .i64 z0, .int .i64 z1, .int .i64 z2] 3)) := by
  unfold execOp
  rw [ho]
  simp only [List.map_toArray, List.map_cons, List.map_nil, he]
  kernel_rfl
set_option maxRecDepth 100000 in
set_option maxHeartbeats 40000000 in
theorem acts_any (S k m : Nat) (w : World) (h : StreamOk w S k) (hk : k ≤ 900000) (hm : m ≤ 10) : Calls Tryz.prog 32 #[.pointer (some ⟨S, 0, none⟩), .int .i64 m] w (ActsP S (k + 14 * m + 1) m w) := by
  obtain ⟨i0, hi0, hz0, hz1, hz2⟩ := info_parts Tryz.actInfo
  have hSw := h.lt
  have HS0 := Lib.hid h
  clear h
  go_enter Tryz.func32, Tryz.ntmps32
  go_wp2_with fail
  go_loopw [5, 6, 9] (fun vo st it wr => ∃ (i : Nat) (t : Int) (L : List Vact), i ≤ m ∧ it = .int .i64 i ∧ st = .int .i64 t ∧ 0 ≤ t ∧ t ≤ 86400000 * (i : Int) ∧ L.length = i ∧ Hid (∀ a ∈ L, ActB a) ∧ Hid (VactRow wr w.heap.size vo L) ∧ Hid (StreamOk wr S (k + 14 * i)) ∧ Hid (Keeps S w wr)) (fun _ _ it _ => m - (intOf it).toNat)
  case atStart => exact ⟨0, 0, [], Nat.zero_le _, rfl, rfl, by omega, by omega, rfl, (fun a ha => by cases ha), World.ownsRow_nil _ _ _ _, HS0.out, Keeps.refl _ _⟩
  case round =>
    clear HS0
    obtain ⟨i, t, L, hi, rfl, rfl, ht0, ht1', hLl, HA, O1, HS1, HK1⟩ := hrel
    obtain ⟨vo, rfl⟩ : ∃ x : Value, x = u5 := ⟨_, rfl⟩
    by_cases hlt : i < m
    case neg =>
      obtain rfl : i = m := by omega
      have hin : ¬ ((i : Int) < (i : Int)) := by omega
      have HST := Lib.hid (stA_any wr w.heap.size vo L O1.out (by omega))
      have HV := Lib.hid (fun b (hb : vo.ownBlock = some b) => (World.ownsRow.lt O1.out b hb).1)
      clear O1
      as_aux_lemma =>
        go_wp2_with fail
        refine HST.out.mono ?_
        rintro e w2 ⟨rfl, hr, hg⟩
        have O2 := Lib.hid hr
        have HLM : Hid ((insL (ltOf actOrd) L).length ≤ i ∧ ∀ a ∈ insL (ltOf actOrd) L, ActB a) := ⟨by rw [insL_len]; omega, fun a ha => HA.out a (insL_mem _ _ ha)⟩
        have HS2 : Hid (StreamOk w2 S (k + 14 * i)) := HS1.out.upto ⟨hg.os, hg.tape, hg.output, hg.size, fun j hj => hg.block j (by have := HS1.out.lt; omega) (fun e => by have := HV.out j e.symm; omega)⟩
        have HK2 : Hid (Keeps S w w2) := ⟨hg.os.trans HK1.out.os, hg.tape.trans HK1.out.tape, hg.output.trans HK1.out.output, Nat.le_trans HK1.out.size hg.size, fun j hj hjS => (hg.block j (Nat.lt_of_lt_of_le hj HK1.out.size) (fun e => by have := HV.out j e.symm; omega)).trans (HK1.out.block j hj hjS)⟩
        clear hr hg HS1 HK1 HST HA
        generalize insL (ltOf actOrd) L = M at O2 HLM
        as_aux_lemma =>
          go_wp2_with fail
          refine (flip_any S (k + 14 * i) 60 _ HS2.out (by omega) (by omega) (by omega)).mono ?_
          rintro e w3 ⟨fb, rfl, hst, hk'⟩
          have HS3 := Lib.hid hst
          have HK3 := Lib.hid (HK2.out.trans hk')
          have O3 : Hid (VactRow w3 w.heap.size vo M) := own_keeps O2.out hk' hSw
          clear hst hk' HS2 HK2 O2
          cases fb
          case true =>
            as_aux_lemma =>
              go_wp2_with fail
              go_ret
              exact ⟨vo, M, rfl, O3.out, HLM.out.1, HLM.out.2, HS3.out, HK3.out⟩
          have HCP := Lib.hid (cpA_any w3 w.heap.size vo M O3.out (by have := HLM.out.1; omega))
          clear O3
          as_aux_lemma =>
            go_wp2_with fail
            refine HCP.out.mono ?_
            rintro e w4 ⟨v', ys, rfl, hr, hmem, hle, hg⟩
            have HE : Hid (ActsP S (k + 14 * i + 1) i w (.returned v') w4) := ⟨v', ys, rfl, hr, Nat.le_trans hle HLM.out.1, fun a ha => HLM.out.2 a (hmem a ha), HS3.out.upto ⟨hg.os, hg.tape, hg.output, hg.size, fun j hj => hg.block j (by have := HS3.out.lt; omega) (fun e => by have := HV.out j e.symm; omega)⟩, ⟨hg.os.trans HK3.out.os, hg.tape.trans HK3.out.tape, hg.output.trans HK3.out.output, Nat.le_trans HK3.out.size hg.size, fun j hj hjS => (hg.block j (Nat.lt_of_lt_of_le hj HK3.out.size) (fun e => by have := HV.out j e.symm; omega)).trans (HK3.out.block j hj hjS)⟩⟩
            clear hr hmem hle hg
            as_aux_lemma =>
              go_wp2_with fail
              go_ret
              exact HE.out
    have hin : (i : Int) < (m : Int) := by omega
    obtain ⟨w1, hw1⟩ : ∃ x : World, x = wr := ⟨_, rfl⟩
    subst hw1
    as_aux_lemma =>
      go_wp2_with ((refine wpList_val rfl (bl_act0 _ (fun _ => rfl) _ _  0 1 1000 3600000 43200000 86399999 86400000 rfl) ?_))
      refine (pick_lit S (k + 14 * i + 0) [0, 1, 1000, 3600000, 43200000, 86399999, 86400000] (fun x => 0 ≤ x ∧ x ≤ 86400000) _ _ _ HS1.out (by omega) rfl rfl (by decide) (by decide) (by decide)).mono ?_
      rintro e w2 ⟨p, rfl, ⟨p0, p1⟩, hst, hk'⟩
      have HS2 := Lib.hid (hst.mono (k' := k + 14 * i + 1) (by omega))
      have HK2 := Lib.hid (HK1.out.trans hk')
      have O2 := Lib.hid (own_keeps O1.out hk' hSw)
      clear hst hk' HS1 HK1 O1
      obtain ⟨t1, ht1⟩ : ∃ t1, t1 = t + p := ⟨_, rfl⟩
      have wt : IntKind.i64.wrap (t + p) = t1 := by rw [ht1]; exact IntWalk.i64_in _ (by omega)
      have ht10 : 0 ≤ t1 := by omega
      have ht11 : t1 ≤ 86400000 * ((i + 1 : Nat) : Int) := by omega
      clear ht1
      as_aux_lemma =>
        go_wp2_with ((refine wpList_val rfl (bl_act1 _ (fun _ => rfl) _ _  ⟨#[98, 97]⟩ ⟨#[98, 97]⟩ ⟨#[98, 97]⟩ ⟨#[98, 98]⟩ rfl) ?_))
        refine (some_lit S (k + 14 * i + 1) [[98, 97], [98, 97], [98, 97], [98, 98]] (fun s => s.length ≤ 2) _ _ _ HS2.out (by omega) rfl rfl (by decide) (by decide) (by decide)).mono ?_
        rintro e w3 ⟨s1, rfl, hs1, hst, hk'⟩
        have HLs1 := Lib.hid hs1
        clear hs1
        have HS3 := Lib.hid (hst.mono (k' := k + 14 * i + 2) (by omega))
        have HK3 := Lib.hid (HK2.out.trans hk')
        have O3 := Lib.hid (own_keeps O2.out hk' hSw)
        clear hst hk' HS2 HK2 O2
        have HBs1 : Hid ((⟨s1.toArray⟩ : ByteArray) = ⟨s1.toArray⟩) := rfl
        clear HBs1
        as_aux_lemma =>
          go_wp2_with ((refine wpList_val rfl (bl_act2 _ (fun _ => rfl) _ _  ⟨#[109, 97]⟩ ⟨#[109, 98]⟩ ⟨#[109, 99]⟩ rfl) ?_))
          refine (some_lit S (k + 14 * i + 2) [[109, 97], [109, 98], [109, 99]] (fun s => s.length ≤ 2) _ _ _ HS3.out (by omega) rfl rfl (by decide) (by decide) (by decide)).mono ?_
          rintro e w4 ⟨s2, rfl, hs2, hst, hk'⟩
          have HLs2 := Lib.hid hs2
          clear hs2
          have HS4 := Lib.hid (hst.mono (k' := k + 14 * i + 3) (by omega))
          have HK4 := Lib.hid (HK3.out.trans hk')
          have O4 := Lib.hid (own_keeps O3.out hk' hSw)
          clear hst hk' HS3 HK3 O3
          have HBs2 : Hid ((⟨s2.toArray⟩ : ByteArray) = ⟨s2.toArray⟩) := rfl
          clear HBs2
          as_aux_lemma =>
            go_wp2_with ((refine wpList_val rfl (bl_act3 _ (fun _ => rfl) _ _  1 1 1 2 2 3 4 5 rfl) ?_))
            refine (pick_lit S (k + 14 * i + 3) [1, 1, 1, 2, 2, 3, 4, 5] (fun x => 1 ≤ x ∧ x ≤ 5) _ _ _ HS4.out (by omega) rfl rfl (by decide) (by decide) (by decide)).mono ?_
            rintro e w5 ⟨kd, rfl, ⟨kd0, kd1⟩, hst, hk'⟩
            have HS5 := Lib.hid (hst.mono (k' := k + 14 * i + 4) (by omega))
            have HK5 := Lib.hid (HK4.out.trans hk')
            have O5 := Lib.hid (own_keeps O4.out hk' hSw)
            clear hst hk' HS4 HK4 O4
            have hk' : Keeps S w5 (w5.alloc (.cells #[.int .i64 t1, .string ⟨s1.toArray⟩, .string ⟨s2.toArray⟩, .int .i64 kd, .int .i64 0, .string ⟨#[]⟩] 45)) := (Keeps.refl _ _).alloc _
            have HS6 : Hid (StreamOk (w5.alloc (.cells #[.int .i64 t1, .string ⟨s1.toArray⟩, .string ⟨s2.toArray⟩, .int .i64 kd, .int .i64 0, .string ⟨#[]⟩] 45)) S (k + 14 * i + 4)) := HS5.out.below (ext_alloc (Below.refl _ _))
            have HK6 := Lib.hid (HK5.out.trans hk')
            have O6 := Lib.hid (own_keeps O5.out hk' hSw)
            have Q6 : Hid (Blk (w5.alloc (.cells #[.int .i64 t1, .string ⟨s1.toArray⟩, .string ⟨s2.toArray⟩, .int .i64 kd, .int .i64 0, .string ⟨#[]⟩] 45)) w5.heap.size [.int .i64 t1, .string ⟨s1.toArray⟩, .string ⟨s2.toArray⟩, .int .i64 kd, .int .i64 0, .string ⟨#[]⟩] 45) := Blk.new _ _ _
            have HNQ : Hid (vo.ownBlock ≠ some w5.heap.size) := own_before O5.out (Nat.le_refl _)
            have hwQ : w.heap.size ≤ w5.heap.size := HK5.out.size
            clear hk' HS5 HK5 O5
            as_aux_lemma =>
              go_upto_region 7 with (refine wpList_val rfl (build_act _ _ _ t1 ⟨s1.toArray⟩ ⟨s2.toArray⟩ kd rfl rfl rfl rfl rfl) ?_)
              generalize (w5.alloc (.cells #[.int .i64 t1, .string ⟨s1.toArray⟩, .string ⟨s2.toArray⟩, .int .i64 kd, .int .i64 0, .string ⟨#[]⟩] 45)) = w6 at HS6 HK6 O6 Q6 ⊢
              obtain ⟨Q, hQ⟩ : ∃ Q, Q = w5.heap.size := ⟨_, rfl⟩
              rw [← hQ] at Q6 HNQ hwQ ⊢
              have hSQ : S < Q := by omega
              have hQS : Q ≠ S := by omega
              clear hQ
              have q3 := Q6.out.cell 3 rfl
              by_cases hkd : kd = 1
              case neg =>
                have hkb : (kd == 1) = false := beq_eq_false_iff_ne.2 hkd
                as_aux_lemma =>
                  go_wp2_with fail
                  refine (flip_any S (k + 14 * i + 4) 60 _ HS6.out (by omega) (by omega) (by omega)).mono ?_
                  rintro e w7 ⟨fb, rfl, hst, hk'⟩
                  have HS7 := Lib.hid (hst.mono (k' := k + 14 * i + 5) (by omega))
                  have HK7 := Lib.hid (HK6.out.trans hk')
                  have O7 := Lib.hid (own_keeps O6.out hk' hSw)
                  have Q7 := Lib.hid (Q6.out.keeps hk' hQS)
                  clear hst hk' HS6 HK6 O6 Q6
                  cases fb
                  case false =>
                    as_aux_lemma =>
                      go_upto_region 18 with (fail)
                      obtain ⟨wn, hwn⟩ : ∃ w', w' = (w7.alloc (.cells #[.int .i64 t1, .string ⟨s1.toArray⟩, .string ⟨s2.toArray⟩, .int .i64 kd, .int .i64 0, .string ⟨#[]⟩] 45)) := ⟨_, rfl⟩
                      have hbn : Below w7.heap.size w7 wn := by rw [hwn]; exact ext_alloc (Below.refl _ _)
                      have HZN : Hid (Blk wn w7.heap.size [.int .i64 t1, .string ⟨s1.toArray⟩, .string ⟨s2.toArray⟩, .int .i64 kd, .int .i64 0, .string ⟨#[]⟩] 45) := by rw [hwn]; exact Blk.new _ _ _
                      have HNW : Hid (∀ j u, ([.int .i64 t1, .string ⟨s1.toArray⟩, .string ⟨s2.toArray⟩, .int .i64 kd, .int .i64 0, .string ⟨#[]⟩] : List Value)[j]? = some u → wn.cell? ((⟨w7.heap.size, 0, none⟩ : Addr).add j) = some u) := fun j u hj => by
                        rw [show (⟨w7.heap.size, 0, none⟩ : Addr).add j = ⟨w7.heap.size, j, none⟩ by cases j <;> simp [Addr.add]]
                        exact HZN.out.cell j hj
                      have HON : Hid (wn.ownsRow w.heap.size 45 6 vo L.length ((L.map Vact.cells).flatten)) := own_keep O7.out hbn
                      have HSN := Lib.hid (HS7.out.below hbn)
                      have HKN := Lib.hid (HK7.out.trans (Keeps.of_below hbn))
                      have HWN := Lib.hid hwn
                      have HLM : Hid (L.length + 1 ≤ maxLen ∧ (L.length + 1) * 72 ≤ 140737488355328) := ⟨by unfold maxLen; omega, by omega⟩
                      have hbw : w.heap.size ≤ wn.heap.size := HKN.out.size
                      have HRG : Hid (w7.rangeAt Q 0 [.int .i64 t1, .string ⟨s1.toArray⟩, .string ⟨s2.toArray⟩, .int .i64 kd, .int .i64 0, .string ⟨#[]⟩]) := fun j v hj => by rw [Nat.zero_add]; exact Q7.out.cell j hj
                      clear hbn hwn HS7 HK7 O7 Q7
                      as_aux_lemma =>
                        go_upto_region 19 with (first | (refine wpList_load_mid rfl 45 (.tmp 7) rfl Q 0 rfl [.int .i64 t1, .string ⟨s1.toArray⟩, .string ⟨s2.toArray⟩, .int .i64 kd, .int .i64 0, .string ⟨#[]⟩] _ HRG.out Tryz.underlying45 rfl Tryz.actSz ?_) | ((refine wpList_val rfl (bl_act4 _ (fun _ => rfl) _ _ 70 t1 ⟨s1.toArray⟩ ⟨s2.toArray⟩ kd 0 ⟨#[]⟩ rfl rfl) ?_)) | (at_builtin; rw [← HWN.out]; refine wpList_append_own _ rfl (.tmp 69) (.tmp 71) 42 rfl w.heap.size 45 i0 (.agg #[.int .i64 0, .string ⟨#[]⟩, .string ⟨#[]⟩, .int .i64 0, .int .i64 0, .string ⟨#[]⟩]) 6 72 Tryz.underlying42 hi0 hz0 hz1 hz2 rfl (by decide) vo L.length ((L.map Vact.cells).flatten) rfl HON.out ⟨w7.heap.size, 0, none⟩ 1 1 [.int .i64 t1, .string ⟨s1.toArray⟩, .string ⟨s2.toArray⟩, .int .i64 kd, .int .i64 0, .string ⟨#[]⟩] rfl rfl HNW.out (by intro u hu; simp at hu; rcases hu with rfl | rfl | rfl | rfl | rfl | rfl <;> rfl) HLM.out.1 HLM.out.2 hbw ?_; intro vn wx hon hgn _))
                        have HOX : Hid (VactRow wx w.heap.size vn (L ++ [⟨t1, s1, s2, kd, 0, []⟩])) := by
                          show VactRow _ _ _ _
                          unfold VactRow
                          rw [List.map_append, List.flatten_append, List.length_append]
                          exact hon
                        have HOB : Hid (∀ b, vo.ownBlock = some b → w.heap.size ≤ b ∧ b < wn.heap.size) := fun b hb => HON.out.lt b hb
                        have HSX : Hid (StreamOk wx S (k + 14 * (i + 1))) := (HSN.out.upto ⟨hgn.os, hgn.tape, hgn.output, hgn.size, fun j hj => hgn.block j (by have := HSN.out.lt; omega) (fun e => by have := (HOB.out j e.symm).1; omega)⟩).mono (by omega)
                        have HKX : Hid (Keeps S w wx) := ⟨hgn.os.trans HKN.out.os, hgn.tape.trans HKN.out.tape, hgn.output.trans HKN.out.output, Nat.le_trans HKN.out.size hgn.size, fun j hj hjS => (hgn.block j (Nat.lt_of_lt_of_le hj HKN.out.size) (fun e => by have := (HOB.out j e.symm).1; omega)).trans (HKN.out.block j hj hjS)⟩
                        have HAX : Hid (∀ y ∈ L ++ [(⟨t1, s1, s2, kd, 0, []⟩ : Vact)], ActB y) := fun y hy => by
                          rcases List.mem_append.1 hy with hy | hy
                          · exact HA.out y hy
                          · rw [List.mem_singleton.1 hy]
                            exact ⟨by show _ ≤ t1; omega, by show t1 ≤ _; omega, by show _ ≤ kd; omega, by show kd ≤ _; omega, by show _ ≤ 0; omega, by show 0 ≤ _; omega, (Nat.le_trans HLs1.out (by decide)), (Nat.le_trans HLs2.out (by decide)), (by show ([] : List UInt8).length ≤ _; decide)⟩
                        clear hon hgn HON HSN HKN HWN HNW HZN HOB HRG
                        as_aux_lemma =>
                          go_wp2_with fail
                          go_roundw
                          case rel => exact ⟨i + 1, t1, L ++ [⟨t1, s1, s2, kd, 0, []⟩], by omega, by go_num, rfl, by omega, by omega, by rw [List.length_append, hLl]; rfl, HAX, HOX, HSX, HKX⟩
                          case measure => simp [intOf]; omega
                  as_aux_lemma =>
                    go_wp2_with fail
                    refine (next_any S (k + 14 * i + 5) 4 _ HS7.out (by omega) (by omega) (by omega)).mono ?_
                    rintro e w8 ⟨sw, rfl, sw0, sw1, hst, hk'⟩
                    have HS8 := Lib.hid (hst.mono (k' := k + 14 * i + 6) (by omega))
                    have HK8 := Lib.hid (HK7.out.trans hk')
                    have O8 := Lib.hid (own_keeps O7.out hk' hSw)
                    have Q8 := Lib.hid (Q7.out.keeps hk' hQS)
                    clear hst hk' HS7 HK7 O7 Q7
                    have hsw : sw = 0 ∨ sw = 1 ∨ sw = 2 ∨ sw = 3 := by omega
                    clear sw0 sw1
                    rcases hsw with rfl | rfl | rfl | rfl
                    · skip
                      as_aux_lemma =>
                        go_wp2_with ((refine wpList_val rfl (bl_act2 _ (fun _ => rfl) _ _  ⟨#[98, 122]⟩ ⟨#[]⟩ ⟨#[98, 97]⟩ rfl) ?_))
                        refine (some_lit S (k + 14 * i + 6) [[98, 122], [], [98, 97]] (fun s => s.length ≤ 2) _ _ _ HS8.out (by omega) rfl rfl (by decide) (by decide) (by decide)).mono ?_
                        rintro e w9 ⟨u1, rfl, hu1, hst, hk'⟩
                        have HLu1 := Lib.hid hu1
                        clear hu1
                        have HS9 := Lib.hid (hst.mono (k' := k + 14 * i + 7) (by omega))
                        have HK9 := Lib.hid (HK8.out.trans hk')
                        have O9 := Lib.hid (own_keeps O8.out hk' hSw)
                        have Q9 := Lib.hid (Q8.out.keeps hk' hQS)
                        clear hst hk' HS8 HK8 O8 Q8
                        have HBu1 : Hid ((⟨u1.toArray⟩ : ByteArray) = ⟨u1.toArray⟩) := rfl
                        clear HBu1
                        as_aux_lemma =>
                          go_wp2_with ((refine wpList_val rfl (bl_act5 _ (fun _ => rfl) _ _  ⟨#[109, 97]⟩ ⟨#[65]⟩ rfl) ?_))
                          refine (some_lit S (k + 14 * i + 7) [[109, 97], [65]] (fun s => s.length ≤ 2) _ _ _ HS9.out (by omega) rfl rfl (by decide) (by decide) (by decide)).mono ?_
                          rintro e w10 ⟨u2, rfl, hu2, hst, hk'⟩
                          have HLu2 := Lib.hid hu2
                          clear hu2
                          have HS10 := Lib.hid (hst.mono (k' := k + 14 * i + 8) (by omega))
                          have HK10 := Lib.hid (HK9.out.trans hk')
                          have O10 := Lib.hid (own_keeps O9.out hk' hSw)
                          have Q10 := Lib.hid (Q9.out.keeps hk' hQS)
                          clear hst hk' HS9 HK9 O9 Q9
                          have HBu2 : Hid ((⟨u2.toArray⟩ : ByteArray) = ⟨u2.toArray⟩) := rfl
                          clear HBu2
                          have sc1 := Q10.out.cell 1 rfl
                          have sf1 := Q10.out.fr 1
                          have sc2 := Q10.out.cell 2 rfl
                          have sf2 := Q10.out.fr 2
                          as_aux_lemma =>
                            go_upto_region 18 with (fail)
                            clear sc1 sf1 sc2 sf2
                            have HS11 : Hid (StreamOk ((w10.setCell ⟨Q, 1, none⟩ (.string ⟨u1.toArray⟩)).setCell ⟨Q, 2, none⟩ (.string ⟨u2.toArray⟩)) S (k + 14 * i + 8)) := (stream_setQ (stream_setQ HS10.out hSQ) hSQ)
                            have HK11 : Hid (Keeps S w ((w10.setCell ⟨Q, 1, none⟩ (.string ⟨u1.toArray⟩)).setCell ⟨Q, 2, none⟩ (.string ⟨u2.toArray⟩))) := ((HK10.out.setCell_new hwQ _).setCell_new hwQ _)
                            have O11 : Hid (VactRow ((w10.setCell ⟨Q, 1, none⟩ (.string ⟨u1.toArray⟩)).setCell ⟨Q, 2, none⟩ (.string ⟨u2.toArray⟩)) w.heap.size vo L) := (own_set1 (own_set1 O10.out HNQ.out) HNQ.out)
                            have Q11 : Hid (Blk ((w10.setCell ⟨Q, 1, none⟩ (.string ⟨u1.toArray⟩)).setCell ⟨Q, 2, none⟩ (.string ⟨u2.toArray⟩)) Q [.int .i64 t1, .string ⟨u1.toArray⟩, .string ⟨u2.toArray⟩, .int .i64 kd, .int .i64 0, .string ⟨#[]⟩] 45) := ((Q10.out.put 1 _).put 2 _)
                            generalize ((w10.setCell ⟨Q, 1, none⟩ (.string ⟨u1.toArray⟩)).setCell ⟨Q, 2, none⟩ (.string ⟨u2.toArray⟩)) = w11 at HS11 HK11 O11 Q11 ⊢
                            clear HS10 HK10 O10 Q10
                            obtain ⟨wn, hwn⟩ : ∃ w', w' = (w11.alloc (.cells #[.int .i64 t1, .string ⟨u1.toArray⟩, .string ⟨u2.toArray⟩, .int .i64 kd, .int .i64 0, .string ⟨#[]⟩] 45)) := ⟨_, rfl⟩
                            have hbn : Below w11.heap.size w11 wn := by rw [hwn]; exact ext_alloc (Below.refl _ _)
                            have HZN : Hid (Blk wn w11.heap.size [.int .i64 t1, .string ⟨u1.toArray⟩, .string ⟨u2.toArray⟩, .int .i64 kd, .int .i64 0, .string ⟨#[]⟩] 45) := by rw [hwn]; exact Blk.new _ _ _
                            have HNW : Hid (∀ j u, ([.int .i64 t1, .string ⟨u1.toArray⟩, .string ⟨u2.toArray⟩, .int .i64 kd, .int .i64 0, .string ⟨#[]⟩] : List Value)[j]? = some u → wn.cell? ((⟨w11.heap.size, 0, none⟩ : Addr).add j) = some u) := fun j u hj => by
                              rw [show (⟨w11.heap.size, 0, none⟩ : Addr).add j = ⟨w11.heap.size, j, none⟩ by cases j <;> simp [Addr.add]]
                              exact HZN.out.cell j hj
                            have HON : Hid (wn.ownsRow w.heap.size 45 6 vo L.length ((L.map Vact.cells).flatten)) := own_keep O11.out hbn
                            have HSN := Lib.hid (HS11.out.below hbn)
                            have HKN := Lib.hid (HK11.out.trans (Keeps.of_below hbn))
                            have HWN := Lib.hid hwn
                            have HLM : Hid (L.length + 1 ≤ maxLen ∧ (L.length + 1) * 72 ≤ 140737488355328) := ⟨by unfold maxLen; omega, by omega⟩
                            have hbw : w.heap.size ≤ wn.heap.size := HKN.out.size
                            have HRG : Hid (w11.rangeAt Q 0 [.int .i64 t1, .string ⟨u1.toArray⟩, .string ⟨u2.toArray⟩, .int .i64 kd, .int .i64 0, .string ⟨#[]⟩]) := fun j v hj => by rw [Nat.zero_add]; exact Q11.out.cell j hj
                            clear hbn hwn HS11 HK11 O11 Q11
                            as_aux_lemma =>
                              go_upto_region 19 with (first | (refine wpList_load_mid rfl 45 (.tmp 7) rfl Q 0 rfl [.int .i64 t1, .string ⟨u1.toArray⟩, .string ⟨u2.toArray⟩, .int .i64 kd, .int .i64 0, .string ⟨#[]⟩] _ HRG.out Tryz.underlying45 rfl Tryz.actSz ?_) | ((refine wpList_val rfl (bl_act4 _ (fun _ => rfl) _ _ 70 t1 ⟨u1.toArray⟩ ⟨u2.toArray⟩ kd 0 ⟨#[]⟩ rfl rfl) ?_)) | (at_builtin; rw [← HWN.out]; refine wpList_append_own _ rfl (.tmp 69) (.tmp 71) 42 rfl w.heap.size 45 i0 (.agg #[.int .i64 0, .string ⟨#[]⟩, .string ⟨#[]⟩, .int .i64 0, .int .i64 0, .string ⟨#[]⟩]) 6 72 Tryz.underlying42 hi0 hz0 hz1 hz2 rfl (by decide) vo L.length ((L.map Vact.cells).flatten) rfl HON.out ⟨w11.heap.size, 0, none⟩ 1 1 [.int .i64 t1, .string ⟨u1.toArray⟩, .string ⟨u2.toArray⟩, .int .i64 kd, .int .i64 0, .string ⟨#[]⟩] rfl rfl HNW.out (by intro u hu; simp at hu; rcases hu with rfl | rfl | rfl | rfl | rfl | rfl <;> rfl) HLM.out.1 HLM.out.2 hbw ?_; intro vn wx hon hgn _))
                              have HOX : Hid (VactRow wx w.heap.size vn (L ++ [⟨t1, u1, u2, kd, 0, []⟩])) := by
                                show VactRow _ _ _ _
                                unfold VactRow
                                rw [List.map_append, List.flatten_append, List.length_append]
                                exact hon
                              have HOB : Hid (∀ b, vo.ownBlock = some b → w.heap.size ≤ b ∧ b < wn.heap.size) := fun b hb => HON.out.lt b hb
                              have HSX : Hid (StreamOk wx S (k + 14 * (i + 1))) := (HSN.out.upto ⟨hgn.os, hgn.tape, hgn.output, hgn.size, fun j hj => hgn.block j (by have := HSN.out.lt; omega) (fun e => by have := (HOB.out j e.symm).1; omega)⟩).mono (by omega)
                              have HKX : Hid (Keeps S w wx) := ⟨hgn.os.trans HKN.out.os, hgn.tape.trans HKN.out.tape, hgn.output.trans HKN.out.output, Nat.le_trans HKN.out.size hgn.size, fun j hj hjS => (hgn.block j (Nat.lt_of_lt_of_le hj HKN.out.size) (fun e => by have := (HOB.out j e.symm).1; omega)).trans (HKN.out.block j hj hjS)⟩
                              have HAX : Hid (∀ y ∈ L ++ [(⟨t1, u1, u2, kd, 0, []⟩ : Vact)], ActB y) := fun y hy => by
                                rcases List.mem_append.1 hy with hy | hy
                                · exact HA.out y hy
                                · rw [List.mem_singleton.1 hy]
                                  exact ⟨by show _ ≤ t1; omega, by show t1 ≤ _; omega, by show _ ≤ kd; omega, by show kd ≤ _; omega, by show _ ≤ 0; omega, by show 0 ≤ _; omega, (Nat.le_trans HLu1.out (by decide)), (Nat.le_trans HLu2.out (by decide)), (by show ([] : List UInt8).length ≤ _; decide)⟩
                              clear hon hgn HON HSN HKN HWN HNW HZN HOB HRG
                              as_aux_lemma =>
                                go_wp2_with fail
                                go_roundw
                                case rel => exact ⟨i + 1, t1, L ++ [⟨t1, u1, u2, kd, 0, []⟩], by omega, by go_num, rfl, by omega, by omega, by rw [List.length_append, hLl]; rfl, HAX, HOX, HSX, HKX⟩
                                case measure => simp [intOf]; omega
                    · skip
                      as_aux_lemma =>
                        go_wp2_with fail
                        refine (odd_any S (k + 14 * i + 6) 1 5 _ HS8.out (by omega) (by omega) (by omega) (by omega)).mono ?_
                        rintro e w9 ⟨oz, rfl, ⟨oz0, oz1⟩, hst, hk'⟩
                        have HS9 := Lib.hid (hst.mono (k' := k + 14 * i + 8) (by omega))
                        have HK9 := Lib.hid (HK8.out.trans hk')
                        have O9 := Lib.hid (own_keeps O8.out hk' hSw)
                        have Q9 := Lib.hid (Q8.out.keeps hk' hQS)
                        clear hst hk' HS8 HK8 O8 Q8
                        have sc3 := Q9.out.cell 3 rfl
                        have sf3 := Q9.out.fr 3
                        as_aux_lemma =>
                          go_upto_region 18 with (fail)
                          clear sc3 sf3
                          have HS10 : Hid (StreamOk (w9.setCell ⟨Q, 3, none⟩ (.int .i64 oz)) S (k + 14 * i + 8)) := (stream_setQ HS9.out hSQ)
                          have HK10 : Hid (Keeps S w (w9.setCell ⟨Q, 3, none⟩ (.int .i64 oz))) := (HK9.out.setCell_new hwQ _)
                          have O10 : Hid (VactRow (w9.setCell ⟨Q, 3, none⟩ (.int .i64 oz)) w.heap.size vo L) := (own_set1 O9.out HNQ.out)
                          have Q10 : Hid (Blk (w9.setCell ⟨Q, 3, none⟩ (.int .i64 oz)) Q [.int .i64 t1, .string ⟨s1.toArray⟩, .string ⟨s2.toArray⟩, .int .i64 oz, .int .i64 0, .string ⟨#[]⟩] 45) := (Q9.out.put 3 _)
                          generalize (w9.setCell ⟨Q, 3, none⟩ (.int .i64 oz)) = w10 at HS10 HK10 O10 Q10 ⊢
                          clear HS9 HK9 O9 Q9
                          obtain ⟨wn, hwn⟩ : ∃ w', w' = (w10.alloc (.cells #[.int .i64 t1, .string ⟨s1.toArray⟩, .string ⟨s2.toArray⟩, .int .i64 oz, .int .i64 0, .string ⟨#[]⟩] 45)) := ⟨_, rfl⟩
                          have hbn : Below w10.heap.size w10 wn := by rw [hwn]; exact ext_alloc (Below.refl _ _)
                          have HZN : Hid (Blk wn w10.heap.size [.int .i64 t1, .string ⟨s1.toArray⟩, .string ⟨s2.toArray⟩, .int .i64 oz, .int .i64 0, .string ⟨#[]⟩] 45) := by rw [hwn]; exact Blk.new _ _ _
                          have HNW : Hid (∀ j u, ([.int .i64 t1, .string ⟨s1.toArray⟩, .string ⟨s2.toArray⟩, .int .i64 oz, .int .i64 0, .string ⟨#[]⟩] : List Value)[j]? = some u → wn.cell? ((⟨w10.heap.size, 0, none⟩ : Addr).add j) = some u) := fun j u hj => by
                            rw [show (⟨w10.heap.size, 0, none⟩ : Addr).add j = ⟨w10.heap.size, j, none⟩ by cases j <;> simp [Addr.add]]
                            exact HZN.out.cell j hj
                          have HON : Hid (wn.ownsRow w.heap.size 45 6 vo L.length ((L.map Vact.cells).flatten)) := own_keep O10.out hbn
                          have HSN := Lib.hid (HS10.out.below hbn)
                          have HKN := Lib.hid (HK10.out.trans (Keeps.of_below hbn))
                          have HWN := Lib.hid hwn
                          have HLM : Hid (L.length + 1 ≤ maxLen ∧ (L.length + 1) * 72 ≤ 140737488355328) := ⟨by unfold maxLen; omega, by omega⟩
                          have hbw : w.heap.size ≤ wn.heap.size := HKN.out.size
                          have HRG : Hid (w10.rangeAt Q 0 [.int .i64 t1, .string ⟨s1.toArray⟩, .string ⟨s2.toArray⟩, .int .i64 oz, .int .i64 0, .string ⟨#[]⟩]) := fun j v hj => by rw [Nat.zero_add]; exact Q10.out.cell j hj
                          clear hbn hwn HS10 HK10 O10 Q10
                          as_aux_lemma =>
                            go_upto_region 19 with (first | (refine wpList_load_mid rfl 45 (.tmp 7) rfl Q 0 rfl [.int .i64 t1, .string ⟨s1.toArray⟩, .string ⟨s2.toArray⟩, .int .i64 oz, .int .i64 0, .string ⟨#[]⟩] _ HRG.out Tryz.underlying45 rfl Tryz.actSz ?_) | ((refine wpList_val rfl (bl_act4 _ (fun _ => rfl) _ _ 70 t1 ⟨s1.toArray⟩ ⟨s2.toArray⟩ oz 0 ⟨#[]⟩ rfl rfl) ?_)) | (at_builtin; rw [← HWN.out]; refine wpList_append_own _ rfl (.tmp 69) (.tmp 71) 42 rfl w.heap.size 45 i0 (.agg #[.int .i64 0, .string ⟨#[]⟩, .string ⟨#[]⟩, .int .i64 0, .int .i64 0, .string ⟨#[]⟩]) 6 72 Tryz.underlying42 hi0 hz0 hz1 hz2 rfl (by decide) vo L.length ((L.map Vact.cells).flatten) rfl HON.out ⟨w10.heap.size, 0, none⟩ 1 1 [.int .i64 t1, .string ⟨s1.toArray⟩, .string ⟨s2.toArray⟩, .int .i64 oz, .int .i64 0, .string ⟨#[]⟩] rfl rfl HNW.out (by intro u hu; simp at hu; rcases hu with rfl | rfl | rfl | rfl | rfl | rfl <;> rfl) HLM.out.1 HLM.out.2 hbw ?_; intro vn wx hon hgn _))
                            have HOX : Hid (VactRow wx w.heap.size vn (L ++ [⟨t1, s1, s2, oz, 0, []⟩])) := by
                              show VactRow _ _ _ _
                              unfold VactRow
                              rw [List.map_append, List.flatten_append, List.length_append]
                              exact hon
                            have HOB : Hid (∀ b, vo.ownBlock = some b → w.heap.size ≤ b ∧ b < wn.heap.size) := fun b hb => HON.out.lt b hb
                            have HSX : Hid (StreamOk wx S (k + 14 * (i + 1))) := (HSN.out.upto ⟨hgn.os, hgn.tape, hgn.output, hgn.size, fun j hj => hgn.block j (by have := HSN.out.lt; omega) (fun e => by have := (HOB.out j e.symm).1; omega)⟩).mono (by omega)
                            have HKX : Hid (Keeps S w wx) := ⟨hgn.os.trans HKN.out.os, hgn.tape.trans HKN.out.tape, hgn.output.trans HKN.out.output, Nat.le_trans HKN.out.size hgn.size, fun j hj hjS => (hgn.block j (Nat.lt_of_lt_of_le hj HKN.out.size) (fun e => by have := (HOB.out j e.symm).1; omega)).trans (HKN.out.block j hj hjS)⟩
                            have HAX : Hid (∀ y ∈ L ++ [(⟨t1, s1, s2, oz, 0, []⟩ : Vact)], ActB y) := fun y hy => by
                              rcases List.mem_append.1 hy with hy | hy
                              · exact HA.out y hy
                              · rw [List.mem_singleton.1 hy]
                                exact ⟨by show _ ≤ t1; omega, by show t1 ≤ _; omega, by show _ ≤ oz; omega, by show oz ≤ _; omega, by show _ ≤ 0; omega, by show 0 ≤ _; omega, (Nat.le_trans HLs1.out (by decide)), (Nat.le_trans HLs2.out (by decide)), (by show ([] : List UInt8).length ≤ _; decide)⟩
                            clear hon hgn HON HSN HKN HWN HNW HZN HOB HRG
                            as_aux_lemma =>
                              go_wp2_with fail
                              go_roundw
                              case rel => exact ⟨i + 1, t1, L ++ [⟨t1, s1, s2, oz, 0, []⟩], by omega, by go_num, rfl, by omega, by omega, by rw [List.length_append, hLl]; rfl, HAX, HOX, HSX, HKX⟩
                              case measure => simp [intOf]; omega
                    · skip
                      as_aux_lemma =>
                        go_wp2_with fail
                        refine (odd_any S (k + 14 * i + 6) 1 1000 _ HS8.out (by omega) (by omega) (by omega) (by omega)).mono ?_
                        rintro e w9 ⟨oz, rfl, ⟨oz0, oz1⟩, hst, hk'⟩
                        have HS9 := Lib.hid (hst.mono (k' := k + 14 * i + 8) (by omega))
                        have HK9 := Lib.hid (HK8.out.trans hk')
                        have O9 := Lib.hid (own_keeps O8.out hk' hSw)
                        have Q9 := Lib.hid (Q8.out.keeps hk' hQS)
                        clear hst hk' HS8 HK8 O8 Q8
                        as_aux_lemma =>
                          go_wp2_with ((refine wpList_val rfl (bl_act2 _ (fun _ => rfl) _ _  ⟨#[120]⟩ ⟨#[43, 49, 50]⟩ ⟨#[43, 48, 49, 50, 51, 52, 53]⟩ rfl) ?_))
                          refine (some_lit S (k + 14 * i + 8) [[120], [43, 49, 50], [43, 48, 49, 50, 51, 52, 53]] (fun s => s.length ≤ 8) _ _ _ HS9.out (by omega) rfl rfl (by decide) (by decide) (by decide)).mono ?_
                          rintro e w10 ⟨u5, rfl, hu5, hst, hk'⟩
                          have HLu5 := Lib.hid hu5
                          clear hu5
                          have HS10 := Lib.hid (hst.mono (k' := k + 14 * i + 9) (by omega))
                          have HK10 := Lib.hid (HK9.out.trans hk')
                          have O10 := Lib.hid (own_keeps O9.out hk' hSw)
                          have Q10 := Lib.hid (Q9.out.keeps hk' hQS)
                          clear hst hk' HS9 HK9 O9 Q9
                          have HBu5 : Hid ((⟨u5.toArray⟩ : ByteArray) = ⟨u5.toArray⟩) := rfl
                          clear HBu5
                          have sc4 := Q10.out.cell 4 rfl
                          have sf4 := Q10.out.fr 4
                          have sc5 := Q10.out.cell 5 rfl
                          have sf5 := Q10.out.fr 5
                          as_aux_lemma =>
                            go_upto_region 18 with (fail)
                            clear sc4 sf4 sc5 sf5
                            have HS11 : Hid (StreamOk ((w10.setCell ⟨Q, 4, none⟩ (.int .i64 oz)).setCell ⟨Q, 5, none⟩ (.string ⟨u5.toArray⟩)) S (k + 14 * i + 9)) := (stream_setQ (stream_setQ HS10.out hSQ) hSQ)
                            have HK11 : Hid (Keeps S w ((w10.setCell ⟨Q, 4, none⟩ (.int .i64 oz)).setCell ⟨Q, 5, none⟩ (.string ⟨u5.toArray⟩))) := ((HK10.out.setCell_new hwQ _).setCell_new hwQ _)
                            have O11 : Hid (VactRow ((w10.setCell ⟨Q, 4, none⟩ (.int .i64 oz)).setCell ⟨Q, 5, none⟩ (.string ⟨u5.toArray⟩)) w.heap.size vo L) := (own_set1 (own_set1 O10.out HNQ.out) HNQ.out)
                            have Q11 : Hid (Blk ((w10.setCell ⟨Q, 4, none⟩ (.int .i64 oz)).setCell ⟨Q, 5, none⟩ (.string ⟨u5.toArray⟩)) Q [.int .i64 t1, .string ⟨s1.toArray⟩, .string ⟨s2.toArray⟩, .int .i64 kd, .int .i64 oz, .string ⟨u5.toArray⟩] 45) := ((Q10.out.put 4 _).put 5 _)
                            generalize ((w10.setCell ⟨Q, 4, none⟩ (.int .i64 oz)).setCell ⟨Q, 5, none⟩ (.string ⟨u5.toArray⟩)) = w11 at HS11 HK11 O11 Q11 ⊢
                            clear HS10 HK10 O10 Q10
                            obtain ⟨wn, hwn⟩ : ∃ w', w' = (w11.alloc (.cells #[.int .i64 t1, .string ⟨s1.toArray⟩, .string ⟨s2.toArray⟩, .int .i64 kd, .int .i64 oz, .string ⟨u5.toArray⟩] 45)) := ⟨_, rfl⟩
                            have hbn : Below w11.heap.size w11 wn := by rw [hwn]; exact ext_alloc (Below.refl _ _)
                            have HZN : Hid (Blk wn w11.heap.size [.int .i64 t1, .string ⟨s1.toArray⟩, .string ⟨s2.toArray⟩, .int .i64 kd, .int .i64 oz, .string ⟨u5.toArray⟩] 45) := by rw [hwn]; exact Blk.new _ _ _
                            have HNW : Hid (∀ j u, ([.int .i64 t1, .string ⟨s1.toArray⟩, .string ⟨s2.toArray⟩, .int .i64 kd, .int .i64 oz, .string ⟨u5.toArray⟩] : List Value)[j]? = some u → wn.cell? ((⟨w11.heap.size, 0, none⟩ : Addr).add j) = some u) := fun j u hj => by
                              rw [show (⟨w11.heap.size, 0, none⟩ : Addr).add j = ⟨w11.heap.size, j, none⟩ by cases j <;> simp [Addr.add]]
                              exact HZN.out.cell j hj
                            have HON : Hid (wn.ownsRow w.heap.size 45 6 vo L.length ((L.map Vact.cells).flatten)) := own_keep O11.out hbn
                            have HSN := Lib.hid (HS11.out.below hbn)
                            have HKN := Lib.hid (HK11.out.trans (Keeps.of_below hbn))
                            have HWN := Lib.hid hwn
                            have HLM : Hid (L.length + 1 ≤ maxLen ∧ (L.length + 1) * 72 ≤ 140737488355328) := ⟨by unfold maxLen; omega, by omega⟩
                            have hbw : w.heap.size ≤ wn.heap.size := HKN.out.size
                            have HRG : Hid (w11.rangeAt Q 0 [.int .i64 t1, .string ⟨s1.toArray⟩, .string ⟨s2.toArray⟩, .int .i64 kd, .int .i64 oz, .string ⟨u5.toArray⟩]) := fun j v hj => by rw [Nat.zero_add]; exact Q11.out.cell j hj
                            clear hbn hwn HS11 HK11 O11 Q11
                            as_aux_lemma =>
                              go_upto_region 19 with (first | (refine wpList_load_mid rfl 45 (.tmp 7) rfl Q 0 rfl [.int .i64 t1, .string ⟨s1.toArray⟩, .string ⟨s2.toArray⟩, .int .i64 kd, .int .i64 oz, .string ⟨u5.toArray⟩] _ HRG.out Tryz.underlying45 rfl Tryz.actSz ?_) | ((refine wpList_val rfl (bl_act4 _ (fun _ => rfl) _ _ 70 t1 ⟨s1.toArray⟩ ⟨s2.toArray⟩ kd oz ⟨u5.toArray⟩ rfl rfl) ?_)) | (at_builtin; rw [← HWN.out]; refine wpList_append_own _ rfl (.tmp 69) (.tmp 71) 42 rfl w.heap.size 45 i0 (.agg #[.int .i64 0, .string ⟨#[]⟩, .string ⟨#[]⟩, .int .i64 0, .int .i64 0, .string ⟨#[]⟩]) 6 72 Tryz.underlying42 hi0 hz0 hz1 hz2 rfl (by decide) vo L.length ((L.map Vact.cells).flatten) rfl HON.out ⟨w11.heap.size, 0, none⟩ 1 1 [.int .i64 t1, .string ⟨s1.toArray⟩, .string ⟨s2.toArray⟩, .int .i64 kd, .int .i64 oz, .string ⟨u5.toArray⟩] rfl rfl HNW.out (by intro u hu; simp at hu; rcases hu with rfl | rfl | rfl | rfl | rfl | rfl <;> rfl) HLM.out.1 HLM.out.2 hbw ?_; intro vn wx hon hgn _))
                              have HOX : Hid (VactRow wx w.heap.size vn (L ++ [⟨t1, s1, s2, kd, oz, u5⟩])) := by
                                show VactRow _ _ _ _
                                unfold VactRow
                                rw [List.map_append, List.flatten_append, List.length_append]
                                exact hon
                              have HOB : Hid (∀ b, vo.ownBlock = some b → w.heap.size ≤ b ∧ b < wn.heap.size) := fun b hb => HON.out.lt b hb
                              have HSX : Hid (StreamOk wx S (k + 14 * (i + 1))) := (HSN.out.upto ⟨hgn.os, hgn.tape, hgn.output, hgn.size, fun j hj => hgn.block j (by have := HSN.out.lt; omega) (fun e => by have := (HOB.out j e.symm).1; omega)⟩).mono (by omega)
                              have HKX : Hid (Keeps S w wx) := ⟨hgn.os.trans HKN.out.os, hgn.tape.trans HKN.out.tape, hgn.output.trans HKN.out.output, Nat.le_trans HKN.out.size hgn.size, fun j hj hjS => (hgn.block j (Nat.lt_of_lt_of_le hj HKN.out.size) (fun e => by have := (HOB.out j e.symm).1; omega)).trans (HKN.out.block j hj hjS)⟩
                              have HAX : Hid (∀ y ∈ L ++ [(⟨t1, s1, s2, kd, oz, u5⟩ : Vact)], ActB y) := fun y hy => by
                                rcases List.mem_append.1 hy with hy | hy
                                · exact HA.out y hy
                                · rw [List.mem_singleton.1 hy]
                                  exact ⟨by show _ ≤ t1; omega, by show t1 ≤ _; omega, by show _ ≤ kd; omega, by show kd ≤ _; omega, by show _ ≤ oz; omega, by show oz ≤ _; omega, (Nat.le_trans HLs1.out (by decide)), (Nat.le_trans HLs2.out (by decide)), (Nat.le_trans HLu5.out (by decide))⟩
                              clear hon hgn HON HSN HKN HWN HNW HZN HOB HRG
                              as_aux_lemma =>
                                go_wp2_with fail
                                go_roundw
                                case rel => exact ⟨i + 1, t1, L ++ [⟨t1, s1, s2, kd, oz, u5⟩], by omega, by go_num, rfl, by omega, by omega, by rw [List.length_append, hLl]; rfl, HAX, HOX, HSX, HKX⟩
                                case measure => simp [intOf]; omega
                    · skip
                      as_aux_lemma =>
                        go_wp2_with fail
                        refine (odd_any S (k + 14 * i + 6) 0 1000 _ HS8.out (by omega) (by omega) (by omega) (by omega)).mono ?_
                        rintro e w9 ⟨oz, rfl, ⟨oz0, oz1⟩, hst, hk'⟩
                        have HS9 := Lib.hid (hst.mono (k' := k + 14 * i + 8) (by omega))
                        have HK9 := Lib.hid (HK8.out.trans hk')
                        have O9 := Lib.hid (own_keeps O8.out hk' hSw)
                        have Q9 := Lib.hid (Q8.out.keeps hk' hQS)
                        clear hst hk' HS8 HK8 O8 Q8
                        have sc0 := Q9.out.cell 0 rfl
                        have sf0 := Q9.out.fr 0
                        as_aux_lemma =>
                          go_upto_region 18 with (fail)
                          clear sc0 sf0
                          have HS10 : Hid (StreamOk (w9.setCell ⟨Q, 0, none⟩ (.int .i64 oz)) S (k + 14 * i + 8)) := (stream_setQ HS9.out hSQ)
                          have HK10 : Hid (Keeps S w (w9.setCell ⟨Q, 0, none⟩ (.int .i64 oz))) := (HK9.out.setCell_new hwQ _)
                          have O10 : Hid (VactRow (w9.setCell ⟨Q, 0, none⟩ (.int .i64 oz)) w.heap.size vo L) := (own_set1 O9.out HNQ.out)
                          have Q10 : Hid (Blk (w9.setCell ⟨Q, 0, none⟩ (.int .i64 oz)) Q [.int .i64 oz, .string ⟨s1.toArray⟩, .string ⟨s2.toArray⟩, .int .i64 kd, .int .i64 0, .string ⟨#[]⟩] 45) := (Q9.out.put 0 _)
                          generalize (w9.setCell ⟨Q, 0, none⟩ (.int .i64 oz)) = w10 at HS10 HK10 O10 Q10 ⊢
                          clear HS9 HK9 O9 Q9
                          obtain ⟨wn, hwn⟩ : ∃ w', w' = (w10.alloc (.cells #[.int .i64 oz, .string ⟨s1.toArray⟩, .string ⟨s2.toArray⟩, .int .i64 kd, .int .i64 0, .string ⟨#[]⟩] 45)) := ⟨_, rfl⟩
                          have hbn : Below w10.heap.size w10 wn := by rw [hwn]; exact ext_alloc (Below.refl _ _)
                          have HZN : Hid (Blk wn w10.heap.size [.int .i64 oz, .string ⟨s1.toArray⟩, .string ⟨s2.toArray⟩, .int .i64 kd, .int .i64 0, .string ⟨#[]⟩] 45) := by rw [hwn]; exact Blk.new _ _ _
                          have HNW : Hid (∀ j u, ([.int .i64 oz, .string ⟨s1.toArray⟩, .string ⟨s2.toArray⟩, .int .i64 kd, .int .i64 0, .string ⟨#[]⟩] : List Value)[j]? = some u → wn.cell? ((⟨w10.heap.size, 0, none⟩ : Addr).add j) = some u) := fun j u hj => by
                            rw [show (⟨w10.heap.size, 0, none⟩ : Addr).add j = ⟨w10.heap.size, j, none⟩ by cases j <;> simp [Addr.add]]
                            exact HZN.out.cell j hj
                          have HON : Hid (wn.ownsRow w.heap.size 45 6 vo L.length ((L.map Vact.cells).flatten)) := own_keep O10.out hbn
                          have HSN := Lib.hid (HS10.out.below hbn)
                          have HKN := Lib.hid (HK10.out.trans (Keeps.of_below hbn))
                          have HWN := Lib.hid hwn
                          have HLM : Hid (L.length + 1 ≤ maxLen ∧ (L.length + 1) * 72 ≤ 140737488355328) := ⟨by unfold maxLen; omega, by omega⟩
                          have hbw : w.heap.size ≤ wn.heap.size := HKN.out.size
                          have HRG : Hid (w10.rangeAt Q 0 [.int .i64 oz, .string ⟨s1.toArray⟩, .string ⟨s2.toArray⟩, .int .i64 kd, .int .i64 0, .string ⟨#[]⟩]) := fun j v hj => by rw [Nat.zero_add]; exact Q10.out.cell j hj
                          clear hbn hwn HS10 HK10 O10 Q10
                          as_aux_lemma =>
                            go_upto_region 19 with (first | (refine wpList_load_mid rfl 45 (.tmp 7) rfl Q 0 rfl [.int .i64 oz, .string ⟨s1.toArray⟩, .string ⟨s2.toArray⟩, .int .i64 kd, .int .i64 0, .string ⟨#[]⟩] _ HRG.out Tryz.underlying45 rfl Tryz.actSz ?_) | ((refine wpList_val rfl (bl_act4 _ (fun _ => rfl) _ _ 70 oz ⟨s1.toArray⟩ ⟨s2.toArray⟩ kd 0 ⟨#[]⟩ rfl rfl) ?_)) | (at_builtin; rw [← HWN.out]; refine wpList_append_own _ rfl (.tmp 69) (.tmp 71) 42 rfl w.heap.size 45 i0 (.agg #[.int .i64 0, .string ⟨#[]⟩, .string ⟨#[]⟩, .int .i64 0, .int .i64 0, .string ⟨#[]⟩]) 6 72 Tryz.underlying42 hi0 hz0 hz1 hz2 rfl (by decide) vo L.length ((L.map Vact.cells).flatten) rfl HON.out ⟨w10.heap.size, 0, none⟩ 1 1 [.int .i64 oz, .string ⟨s1.toArray⟩, .string ⟨s2.toArray⟩, .int .i64 kd, .int .i64 0, .string ⟨#[]⟩] rfl rfl HNW.out (by intro u hu; simp at hu; rcases hu with rfl | rfl | rfl | rfl | rfl | rfl <;> rfl) HLM.out.1 HLM.out.2 hbw ?_; intro vn wx hon hgn _))
                            have HOX : Hid (VactRow wx w.heap.size vn (L ++ [⟨oz, s1, s2, kd, 0, []⟩])) := by
                              show VactRow _ _ _ _
                              unfold VactRow
                              rw [List.map_append, List.flatten_append, List.length_append]
                              exact hon
                            have HOB : Hid (∀ b, vo.ownBlock = some b → w.heap.size ≤ b ∧ b < wn.heap.size) := fun b hb => HON.out.lt b hb
                            have HSX : Hid (StreamOk wx S (k + 14 * (i + 1))) := (HSN.out.upto ⟨hgn.os, hgn.tape, hgn.output, hgn.size, fun j hj => hgn.block j (by have := HSN.out.lt; omega) (fun e => by have := (HOB.out j e.symm).1; omega)⟩).mono (by omega)
                            have HKX : Hid (Keeps S w wx) := ⟨hgn.os.trans HKN.out.os, hgn.tape.trans HKN.out.tape, hgn.output.trans HKN.out.output, Nat.le_trans HKN.out.size hgn.size, fun j hj hjS => (hgn.block j (Nat.lt_of_lt_of_le hj HKN.out.size) (fun e => by have := (HOB.out j e.symm).1; omega)).trans (HKN.out.block j hj hjS)⟩
                            have HAX : Hid (∀ y ∈ L ++ [(⟨oz, s1, s2, kd, 0, []⟩ : Vact)], ActB y) := fun y hy => by
                              rcases List.mem_append.1 hy with hy | hy
                              · exact HA.out y hy
                              · rw [List.mem_singleton.1 hy]
                                exact ⟨by show _ ≤ oz; omega, by show oz ≤ _; omega, by show _ ≤ kd; omega, by show kd ≤ _; omega, by show _ ≤ 0; omega, by show 0 ≤ _; omega, (Nat.le_trans HLs1.out (by decide)), (Nat.le_trans HLs2.out (by decide)), (by show ([] : List UInt8).length ≤ _; decide)⟩
                            clear hon hgn HON HSN HKN HWN HNW HZN HOB HRG
                            as_aux_lemma =>
                              go_wp2_with fail
                              go_roundw
                              case rel => exact ⟨i + 1, t1, L ++ [⟨oz, s1, s2, kd, 0, []⟩], by omega, by go_num, rfl, by omega, by omega, by rw [List.length_append, hLl]; rfl, HAX, HOX, HSX, HKX⟩
                              case measure => simp [intOf]; omega
              subst hkd
              as_aux_lemma =>
                go_wp2_with ((refine wpList_val rfl (bl_act6 _ (fun _ => rfl) _ _  1 5000 60000 rfl) ?_))
                refine (pick_lit S (k + 14 * i + 4) [1, 5000, 60000] (fun x => 1 ≤ x ∧ x ≤ 60000) _ _ _ HS6.out (by omega) rfl rfl (by decide) (by decide) (by decide)).mono ?_
                rintro e w7 ⟨lg, rfl, ⟨lg0, lg1⟩, hst, hk'⟩
                have HS7 := Lib.hid (hst.mono (k' := k + 14 * i + 5) (by omega))
                have HK7 := Lib.hid (HK6.out.trans hk')
                have O7 := Lib.hid (own_keeps O6.out hk' hSw)
                have Q7 := Lib.hid (Q6.out.keeps hk' hQS)
                clear hst hk' HS6 HK6 O6 Q6
                as_aux_lemma =>
                  go_wp2_with ((refine wpList_val rfl (bl_act2 _ (fun _ => rfl) _ _  ⟨#[]⟩ ⟨#[43, 52, 57, 51, 48, 49, 50, 51]⟩ ⟨#[43, 49, 50, 48, 48]⟩ rfl) ?_))
                  refine (some_lit S (k + 14 * i + 5) [[], [43, 52, 57, 51, 48, 49, 50, 51], [43, 49, 50, 48, 48]] (fun s => s.length ≤ 8) _ _ _ HS7.out (by omega) rfl rfl (by decide) (by decide) (by decide)).mono ?_
                  rintro e w8 ⟨s5, rfl, hs5, hst, hk'⟩
                  have HLs5 := Lib.hid hs5
                  clear hs5
                  have HS8 := Lib.hid (hst.mono (k' := k + 14 * i + 6) (by omega))
                  have HK8 := Lib.hid (HK7.out.trans hk')
                  have O8 := Lib.hid (own_keeps O7.out hk' hSw)
                  have Q8 := Lib.hid (Q7.out.keeps hk' hQS)
                  clear hst hk' HS7 HK7 O7 Q7
                  have HBs5 : Hid ((⟨s5.toArray⟩ : ByteArray) = ⟨s5.toArray⟩) := rfl
                  clear HBs5
                  have sc4 := Q8.out.cell 4 rfl
                  have sf4 := Q8.out.fr 4
                  have sc5 := Q8.out.cell 5 rfl
                  have sf5 := Q8.out.fr 5
                  as_aux_lemma =>
                    go_upto_region 9 with (fail)
                    clear sc4 sf4 sc5 sf5
                    have HS9 : Hid (StreamOk ((w8.setCell ⟨Q, 4, none⟩ (.int .i64 lg)).setCell ⟨Q, 5, none⟩ (.string ⟨s5.toArray⟩)) S (k + 14 * i + 6)) := (stream_setQ (stream_setQ HS8.out hSQ) hSQ)
                    have HK9 : Hid (Keeps S w ((w8.setCell ⟨Q, 4, none⟩ (.int .i64 lg)).setCell ⟨Q, 5, none⟩ (.string ⟨s5.toArray⟩))) := ((HK8.out.setCell_new hwQ _).setCell_new hwQ _)
                    have O9 : Hid (VactRow ((w8.setCell ⟨Q, 4, none⟩ (.int .i64 lg)).setCell ⟨Q, 5, none⟩ (.string ⟨s5.toArray⟩)) w.heap.size vo L) := (own_set1 (own_set1 O8.out HNQ.out) HNQ.out)
                    have Q9 : Hid (Blk ((w8.setCell ⟨Q, 4, none⟩ (.int .i64 lg)).setCell ⟨Q, 5, none⟩ (.string ⟨s5.toArray⟩)) Q [.int .i64 t1, .string ⟨s1.toArray⟩, .string ⟨s2.toArray⟩, .int .i64 1, .int .i64 lg, .string ⟨s5.toArray⟩] 45) := ((Q8.out.put 4 _).put 5 _)
                    generalize ((w8.setCell ⟨Q, 4, none⟩ (.int .i64 lg)).setCell ⟨Q, 5, none⟩ (.string ⟨s5.toArray⟩)) = w9 at HS9 HK9 O9 Q9 ⊢
                    clear HS8 HK8 O8 Q8
                    as_aux_lemma =>
                      go_wp2_with fail
                      refine (flip_any S (k + 14 * i + 6) 60 _ HS9.out (by omega) (by omega) (by omega)).mono ?_
                      rintro e w10 ⟨fb, rfl, hst, hk'⟩
                      have HS10 := Lib.hid (hst.mono (k' := k + 14 * i + 7) (by omega))
                      have HK10 := Lib.hid (HK9.out.trans hk')
                      have O10 := Lib.hid (own_keeps O9.out hk' hSw)
                      have Q10 := Lib.hid (Q9.out.keeps hk' hQS)
                      clear hst hk' HS9 HK9 O9 Q9
                      cases fb
                      case false =>
                        as_aux_lemma =>
                          go_upto_region 18 with (fail)
                          obtain ⟨wn, hwn⟩ : ∃ w', w' = (w10.alloc (.cells #[.int .i64 t1, .string ⟨s1.toArray⟩, .string ⟨s2.toArray⟩, .int .i64 1, .int .i64 lg, .string ⟨s5.toArray⟩] 45)) := ⟨_, rfl⟩
                          have hbn : Below w10.heap.size w10 wn := by rw [hwn]; exact ext_alloc (Below.refl _ _)
                          have HZN : Hid (Blk wn w10.heap.size [.int .i64 t1, .string ⟨s1.toArray⟩, .string ⟨s2.toArray⟩, .int .i64 1, .int .i64 lg, .string ⟨s5.toArray⟩] 45) := by rw [hwn]; exact Blk.new _ _ _
                          have HNW : Hid (∀ j u, ([.int .i64 t1, .string ⟨s1.toArray⟩, .string ⟨s2.toArray⟩, .int .i64 1, .int .i64 lg, .string ⟨s5.toArray⟩] : List Value)[j]? = some u → wn.cell? ((⟨w10.heap.size, 0, none⟩ : Addr).add j) = some u) := fun j u hj => by
                            rw [show (⟨w10.heap.size, 0, none⟩ : Addr).add j = ⟨w10.heap.size, j, none⟩ by cases j <;> simp [Addr.add]]
                            exact HZN.out.cell j hj
                          have HON : Hid (wn.ownsRow w.heap.size 45 6 vo L.length ((L.map Vact.cells).flatten)) := own_keep O10.out hbn
                          have HSN := Lib.hid (HS10.out.below hbn)
                          have HKN := Lib.hid (HK10.out.trans (Keeps.of_below hbn))
                          have HWN := Lib.hid hwn
                          have HLM : Hid (L.length + 1 ≤ maxLen ∧ (L.length + 1) * 72 ≤ 140737488355328) := ⟨by unfold maxLen; omega, by omega⟩
                          have hbw : w.heap.size ≤ wn.heap.size := HKN.out.size
                          have HRG : Hid (w10.rangeAt Q 0 [.int .i64 t1, .string ⟨s1.toArray⟩, .string ⟨s2.toArray⟩, .int .i64 1, .int .i64 lg, .string ⟨s5.toArray⟩]) := fun j v hj => by rw [Nat.zero_add]; exact Q10.out.cell j hj
                          clear hbn hwn HS10 HK10 O10 Q10
                          as_aux_lemma =>
                            go_upto_region 19 with (first | (refine wpList_load_mid rfl 45 (.tmp 7) rfl Q 0 rfl [.int .i64 t1, .string ⟨s1.toArray⟩, .string ⟨s2.toArray⟩, .int .i64 1, .int .i64 lg, .string ⟨s5.toArray⟩] _ HRG.out Tryz.underlying45 rfl Tryz.actSz ?_) | ((refine wpList_val rfl (bl_act4 _ (fun _ => rfl) _ _ 70 t1 ⟨s1.toArray⟩ ⟨s2.toArray⟩ 1 lg ⟨s5.toArray⟩ rfl rfl) ?_)) | (at_builtin; rw [← HWN.out]; refine wpList_append_own _ rfl (.tmp 69) (.tmp 71) 42 rfl w.heap.size 45 i0 (.agg #[.int .i64 0, .string ⟨#[]⟩, .string ⟨#[]⟩, .int .i64 0, .int .i64 0, .string ⟨#[]⟩]) 6 72 Tryz.underlying42 hi0 hz0 hz1 hz2 rfl (by decide) vo L.length ((L.map Vact.cells).flatten) rfl HON.out ⟨w10.heap.size, 0, none⟩ 1 1 [.int .i64 t1, .string ⟨s1.toArray⟩, .string ⟨s2.toArray⟩, .int .i64 1, .int .i64 lg, .string ⟨s5.toArray⟩] rfl rfl HNW.out (by intro u hu; simp at hu; rcases hu with rfl | rfl | rfl | rfl | rfl | rfl <;> rfl) HLM.out.1 HLM.out.2 hbw ?_; intro vn wx hon hgn _))
                            have HOX : Hid (VactRow wx w.heap.size vn (L ++ [⟨t1, s1, s2, 1, lg, s5⟩])) := by
                              show VactRow _ _ _ _
                              unfold VactRow
                              rw [List.map_append, List.flatten_append, List.length_append]
                              exact hon
                            have HOB : Hid (∀ b, vo.ownBlock = some b → w.heap.size ≤ b ∧ b < wn.heap.size) := fun b hb => HON.out.lt b hb
                            have HSX : Hid (StreamOk wx S (k + 14 * (i + 1))) := (HSN.out.upto ⟨hgn.os, hgn.tape, hgn.output, hgn.size, fun j hj => hgn.block j (by have := HSN.out.lt; omega) (fun e => by have := (HOB.out j e.symm).1; omega)⟩).mono (by omega)
                            have HKX : Hid (Keeps S w wx) := ⟨hgn.os.trans HKN.out.os, hgn.tape.trans HKN.out.tape, hgn.output.trans HKN.out.output, Nat.le_trans HKN.out.size hgn.size, fun j hj hjS => (hgn.block j (Nat.lt_of_lt_of_le hj HKN.out.size) (fun e => by have := (HOB.out j e.symm).1; omega)).trans (HKN.out.block j hj hjS)⟩
                            have HAX : Hid (∀ y ∈ L ++ [(⟨t1, s1, s2, 1, lg, s5⟩ : Vact)], ActB y) := fun y hy => by
                              rcases List.mem_append.1 hy with hy | hy
                              · exact HA.out y hy
                              · rw [List.mem_singleton.1 hy]
                                exact ⟨by show _ ≤ t1; omega, by show t1 ≤ _; omega, by show _ ≤ 1; omega, by show 1 ≤ _; omega, by show _ ≤ lg; omega, by show lg ≤ _; omega, (Nat.le_trans HLs1.out (by decide)), (Nat.le_trans HLs2.out (by decide)), (Nat.le_trans HLs5.out (by decide))⟩
                            clear hon hgn HON HSN HKN HWN HNW HZN HOB HRG
                            as_aux_lemma =>
                              go_wp2_with fail
                              go_roundw
                              case rel => exact ⟨i + 1, t1, L ++ [⟨t1, s1, s2, 1, lg, s5⟩], by omega, by go_num, rfl, by omega, by omega, by rw [List.length_append, hLl]; rfl, HAX, HOX, HSX, HKX⟩
                              case measure => simp [intOf]; omega
                      as_aux_lemma =>
                        go_wp2_with fail
                        refine (next_any S (k + 14 * i + 7) 4 _ HS10.out (by omega) (by omega) (by omega)).mono ?_
                        rintro e w11 ⟨sw, rfl, sw0, sw1, hst, hk'⟩
                        have HS11 := Lib.hid (hst.mono (k' := k + 14 * i + 8) (by omega))
                        have HK11 := Lib.hid (HK10.out.trans hk')
                        have O11 := Lib.hid (own_keeps O10.out hk' hSw)
                        have Q11 := Lib.hid (Q10.out.keeps hk' hQS)
                        clear hst hk' HS10 HK10 O10 Q10
                        have hsw : sw = 0 ∨ sw = 1 ∨ sw = 2 ∨ sw = 3 := by omega
                        clear sw0 sw1
                        rcases hsw with rfl | rfl | rfl | rfl
                        · skip
                          as_aux_lemma =>
                            go_wp2_with ((refine wpList_val rfl (bl_act2 _ (fun _ => rfl) _ _  ⟨#[98, 122]⟩ ⟨#[]⟩ ⟨#[98, 97]⟩ rfl) ?_))
                            refine (some_lit S (k + 14 * i + 8) [[98, 122], [], [98, 97]] (fun s => s.length ≤ 2) _ _ _ HS11.out (by omega) rfl rfl (by decide) (by decide) (by decide)).mono ?_
                            rintro e w12 ⟨u1, rfl, hu1, hst, hk'⟩
                            have HLu1 := Lib.hid hu1
                            clear hu1
                            have HS12 := Lib.hid (hst.mono (k' := k + 14 * i + 9) (by omega))
                            have HK12 := Lib.hid (HK11.out.trans hk')
                            have O12 := Lib.hid (own_keeps O11.out hk' hSw)
                            have Q12 := Lib.hid (Q11.out.keeps hk' hQS)
                            clear hst hk' HS11 HK11 O11 Q11
                            have HBu1 : Hid ((⟨u1.toArray⟩ : ByteArray) = ⟨u1.toArray⟩) := rfl
                            clear HBu1
                            as_aux_lemma =>
                              go_wp2_with ((refine wpList_val rfl (bl_act5 _ (fun _ => rfl) _ _  ⟨#[109, 97]⟩ ⟨#[65]⟩ rfl) ?_))
                              refine (some_lit S (k + 14 * i + 9) [[109, 97], [65]] (fun s => s.length ≤ 2) _ _ _ HS12.out (by omega) rfl rfl (by decide) (by decide) (by decide)).mono ?_
                              rintro e w13 ⟨u2, rfl, hu2, hst, hk'⟩
                              have HLu2 := Lib.hid hu2
                              clear hu2
                              have HS13 := Lib.hid (hst.mono (k' := k + 14 * i + 10) (by omega))
                              have HK13 := Lib.hid (HK12.out.trans hk')
                              have O13 := Lib.hid (own_keeps O12.out hk' hSw)
                              have Q13 := Lib.hid (Q12.out.keeps hk' hQS)
                              clear hst hk' HS12 HK12 O12 Q12
                              have HBu2 : Hid ((⟨u2.toArray⟩ : ByteArray) = ⟨u2.toArray⟩) := rfl
                              clear HBu2
                              have sc1 := Q13.out.cell 1 rfl
                              have sf1 := Q13.out.fr 1
                              have sc2 := Q13.out.cell 2 rfl
                              have sf2 := Q13.out.fr 2
                              as_aux_lemma =>
                                go_upto_region 18 with (fail)
                                clear sc1 sf1 sc2 sf2
                                have HS14 : Hid (StreamOk ((w13.setCell ⟨Q, 1, none⟩ (.string ⟨u1.toArray⟩)).setCell ⟨Q, 2, none⟩ (.string ⟨u2.toArray⟩)) S (k + 14 * i + 10)) := (stream_setQ (stream_setQ HS13.out hSQ) hSQ)
                                have HK14 : Hid (Keeps S w ((w13.setCell ⟨Q, 1, none⟩ (.string ⟨u1.toArray⟩)).setCell ⟨Q, 2, none⟩ (.string ⟨u2.toArray⟩))) := ((HK13.out.setCell_new hwQ _).setCell_new hwQ _)
                                have O14 : Hid (VactRow ((w13.setCell ⟨Q, 1, none⟩ (.string ⟨u1.toArray⟩)).setCell ⟨Q, 2, none⟩ (.string ⟨u2.toArray⟩)) w.heap.size vo L) := (own_set1 (own_set1 O13.out HNQ.out) HNQ.out)
                                have Q14 : Hid (Blk ((w13.setCell ⟨Q, 1, none⟩ (.string ⟨u1.toArray⟩)).setCell ⟨Q, 2, none⟩ (.string ⟨u2.toArray⟩)) Q [.int .i64 t1, .string ⟨u1.toArray⟩, .string ⟨u2.toArray⟩, .int .i64 1, .int .i64 lg, .string ⟨s5.toArray⟩] 45) := ((Q13.out.put 1 _).put 2 _)
                                generalize ((w13.setCell ⟨Q, 1, none⟩ (.string ⟨u1.toArray⟩)).setCell ⟨Q, 2, none⟩ (.string ⟨u2.toArray⟩)) = w14 at HS14 HK14 O14 Q14 ⊢
                                clear HS13 HK13 O13 Q13
                                obtain ⟨wn, hwn⟩ : ∃ w', w' = (w14.alloc (.cells #[.int .i64 t1, .string ⟨u1.toArray⟩, .string ⟨u2.toArray⟩, .int .i64 1, .int .i64 lg, .string ⟨s5.toArray⟩] 45)) := ⟨_, rfl⟩
                                have hbn : Below w14.heap.size w14 wn := by rw [hwn]; exact ext_alloc (Below.refl _ _)
                                have HZN : Hid (Blk wn w14.heap.size [.int .i64 t1, .string ⟨u1.toArray⟩, .string ⟨u2.toArray⟩, .int .i64 1, .int .i64 lg, .string ⟨s5.toArray⟩] 45) := by rw [hwn]; exact Blk.new _ _ _
                                have HNW : Hid (∀ j u, ([.int .i64 t1, .string ⟨u1.toArray⟩, .string ⟨u2.toArray⟩, .int .i64 1, .int .i64 lg, .string ⟨s5.toArray⟩] : List Value)[j]? = some u → wn.cell? ((⟨w14.heap.size, 0, none⟩ : Addr).add j) = some u) := fun j u hj => by
                                  rw [show (⟨w14.heap.size, 0, none⟩ : Addr).add j = ⟨w14.heap.size, j, none⟩ by cases j <;> simp [Addr.add]]
                                  exact HZN.out.cell j hj
                                have HON : Hid (wn.ownsRow w.heap.size 45 6 vo L.length ((L.map Vact.cells).flatten)) := own_keep O14.out hbn
                                have HSN := Lib.hid (HS14.out.below hbn)
                                have HKN := Lib.hid (HK14.out.trans (Keeps.of_below hbn))
                                have HWN := Lib.hid hwn
                                have HLM : Hid (L.length + 1 ≤ maxLen ∧ (L.length + 1) * 72 ≤ 140737488355328) := ⟨by unfold maxLen; omega, by omega⟩
                                have hbw : w.heap.size ≤ wn.heap.size := HKN.out.size
                                have HRG : Hid (w14.rangeAt Q 0 [.int .i64 t1, .string ⟨u1.toArray⟩, .string ⟨u2.toArray⟩, .int .i64 1, .int .i64 lg, .string ⟨s5.toArray⟩]) := fun j v hj => by rw [Nat.zero_add]; exact Q14.out.cell j hj
                                clear hbn hwn HS14 HK14 O14 Q14
                                as_aux_lemma =>
                                  go_upto_region 19 with (first | (refine wpList_load_mid rfl 45 (.tmp 7) rfl Q 0 rfl [.int .i64 t1, .string ⟨u1.toArray⟩, .string ⟨u2.toArray⟩, .int .i64 1, .int .i64 lg, .string ⟨s5.toArray⟩] _ HRG.out Tryz.underlying45 rfl Tryz.actSz ?_) | ((refine wpList_val rfl (bl_act4 _ (fun _ => rfl) _ _ 70 t1 ⟨u1.toArray⟩ ⟨u2.toArray⟩ 1 lg ⟨s5.toArray⟩ rfl rfl) ?_)) | (at_builtin; rw [← HWN.out]; refine wpList_append_own _ rfl (.tmp 69) (.tmp 71) 42 rfl w.heap.size 45 i0 (.agg #[.int .i64 0, .string ⟨#[]⟩, .string ⟨#[]⟩, .int .i64 0, .int .i64 0, .string ⟨#[]⟩]) 6 72 Tryz.underlying42 hi0 hz0 hz1 hz2 rfl (by decide) vo L.length ((L.map Vact.cells).flatten) rfl HON.out ⟨w14.heap.size, 0, none⟩ 1 1 [.int .i64 t1, .string ⟨u1.toArray⟩, .string ⟨u2.toArray⟩, .int .i64 1, .int .i64 lg, .string ⟨s5.toArray⟩] rfl rfl HNW.out (by intro u hu; simp at hu; rcases hu with rfl | rfl | rfl | rfl | rfl | rfl <;> rfl) HLM.out.1 HLM.out.2 hbw ?_; intro vn wx hon hgn _))
                                  have HOX : Hid (VactRow wx w.heap.size vn (L ++ [⟨t1, u1, u2, 1, lg, s5⟩])) := by
                                    show VactRow _ _ _ _
                                    unfold VactRow
                                    rw [List.map_append, List.flatten_append, List.length_append]
                                    exact hon
                                  have HOB : Hid (∀ b, vo.ownBlock = some b → w.heap.size ≤ b ∧ b < wn.heap.size) := fun b hb => HON.out.lt b hb
                                  have HSX : Hid (StreamOk wx S (k + 14 * (i + 1))) := (HSN.out.upto ⟨hgn.os, hgn.tape, hgn.output, hgn.size, fun j hj => hgn.block j (by have := HSN.out.lt; omega) (fun e => by have := (HOB.out j e.symm).1; omega)⟩).mono (by omega)
                                  have HKX : Hid (Keeps S w wx) := ⟨hgn.os.trans HKN.out.os, hgn.tape.trans HKN.out.tape, hgn.output.trans HKN.out.output, Nat.le_trans HKN.out.size hgn.size, fun j hj hjS => (hgn.block j (Nat.lt_of_lt_of_le hj HKN.out.size) (fun e => by have := (HOB.out j e.symm).1; omega)).trans (HKN.out.block j hj hjS)⟩
                                  have HAX : Hid (∀ y ∈ L ++ [(⟨t1, u1, u2, 1, lg, s5⟩ : Vact)], ActB y) := fun y hy => by
                                    rcases List.mem_append.1 hy with hy | hy
                                    · exact HA.out y hy
                                    · rw [List.mem_singleton.1 hy]
                                      exact ⟨by show _ ≤ t1; omega, by show t1 ≤ _; omega, by show _ ≤ 1; omega, by show 1 ≤ _; omega, by show _ ≤ lg; omega, by show lg ≤ _; omega, (Nat.le_trans HLu1.out (by decide)), (Nat.le_trans HLu2.out (by decide)), (Nat.le_trans HLs5.out (by decide))⟩
                                  clear hon hgn HON HSN HKN HWN HNW HZN HOB HRG
                                  as_aux_lemma =>
                                    go_wp2_with fail
                                    go_roundw
                                    case rel => exact ⟨i + 1, t1, L ++ [⟨t1, u1, u2, 1, lg, s5⟩], by omega, by go_num, rfl, by omega, by omega, by rw [List.length_append, hLl]; rfl, HAX, HOX, HSX, HKX⟩
                                    case measure => simp [intOf]; omega
                        · skip
                          as_aux_lemma =>
                            go_wp2_with fail
                            refine (odd_any S (k + 14 * i + 8) 1 5 _ HS11.out (by omega) (by omega) (by omega) (by omega)).mono ?_
                            rintro e w12 ⟨oz, rfl, ⟨oz0, oz1⟩, hst, hk'⟩
                            have HS12 := Lib.hid (hst.mono (k' := k + 14 * i + 10) (by omega))
                            have HK12 := Lib.hid (HK11.out.trans hk')
                            have O12 := Lib.hid (own_keeps O11.out hk' hSw)
                            have Q12 := Lib.hid (Q11.out.keeps hk' hQS)
                            clear hst hk' HS11 HK11 O11 Q11
                            have sc3 := Q12.out.cell 3 rfl
                            have sf3 := Q12.out.fr 3
                            as_aux_lemma =>
                              go_upto_region 18 with (fail)
                              clear sc3 sf3
                              have HS13 : Hid (StreamOk (w12.setCell ⟨Q, 3, none⟩ (.int .i64 oz)) S (k + 14 * i + 10)) := (stream_setQ HS12.out hSQ)
                              have HK13 : Hid (Keeps S w (w12.setCell ⟨Q, 3, none⟩ (.int .i64 oz))) := (HK12.out.setCell_new hwQ _)
                              have O13 : Hid (VactRow (w12.setCell ⟨Q, 3, none⟩ (.int .i64 oz)) w.heap.size vo L) := (own_set1 O12.out HNQ.out)
                              have Q13 : Hid (Blk (w12.setCell ⟨Q, 3, none⟩ (.int .i64 oz)) Q [.int .i64 t1, .string ⟨s1.toArray⟩, .string ⟨s2.toArray⟩, .int .i64 oz, .int .i64 lg, .string ⟨s5.toArray⟩] 45) := (Q12.out.put 3 _)
                              generalize (w12.setCell ⟨Q, 3, none⟩ (.int .i64 oz)) = w13 at HS13 HK13 O13 Q13 ⊢
                              clear HS12 HK12 O12 Q12
                              obtain ⟨wn, hwn⟩ : ∃ w', w' = (w13.alloc (.cells #[.int .i64 t1, .string ⟨s1.toArray⟩, .string ⟨s2.toArray⟩, .int .i64 oz, .int .i64 lg, .string ⟨s5.toArray⟩] 45)) := ⟨_, rfl⟩
                              have hbn : Below w13.heap.size w13 wn := by rw [hwn]; exact ext_alloc (Below.refl _ _)
                              have HZN : Hid (Blk wn w13.heap.size [.int .i64 t1, .string ⟨s1.toArray⟩, .string ⟨s2.toArray⟩, .int .i64 oz, .int .i64 lg, .string ⟨s5.toArray⟩] 45) := by rw [hwn]; exact Blk.new _ _ _
                              have HNW : Hid (∀ j u, ([.int .i64 t1, .string ⟨s1.toArray⟩, .string ⟨s2.toArray⟩, .int .i64 oz, .int .i64 lg, .string ⟨s5.toArray⟩] : List Value)[j]? = some u → wn.cell? ((⟨w13.heap.size, 0, none⟩ : Addr).add j) = some u) := fun j u hj => by
                                rw [show (⟨w13.heap.size, 0, none⟩ : Addr).add j = ⟨w13.heap.size, j, none⟩ by cases j <;> simp [Addr.add]]
                                exact HZN.out.cell j hj
                              have HON : Hid (wn.ownsRow w.heap.size 45 6 vo L.length ((L.map Vact.cells).flatten)) := own_keep O13.out hbn
                              have HSN := Lib.hid (HS13.out.below hbn)
                              have HKN := Lib.hid (HK13.out.trans (Keeps.of_below hbn))
                              have HWN := Lib.hid hwn
                              have HLM : Hid (L.length + 1 ≤ maxLen ∧ (L.length + 1) * 72 ≤ 140737488355328) := ⟨by unfold maxLen; omega, by omega⟩
                              have hbw : w.heap.size ≤ wn.heap.size := HKN.out.size
                              have HRG : Hid (w13.rangeAt Q 0 [.int .i64 t1, .string ⟨s1.toArray⟩, .string ⟨s2.toArray⟩, .int .i64 oz, .int .i64 lg, .string ⟨s5.toArray⟩]) := fun j v hj => by rw [Nat.zero_add]; exact Q13.out.cell j hj
                              clear hbn hwn HS13 HK13 O13 Q13
                              as_aux_lemma =>
                                go_upto_region 19 with (first | (refine wpList_load_mid rfl 45 (.tmp 7) rfl Q 0 rfl [.int .i64 t1, .string ⟨s1.toArray⟩, .string ⟨s2.toArray⟩, .int .i64 oz, .int .i64 lg, .string ⟨s5.toArray⟩] _ HRG.out Tryz.underlying45 rfl Tryz.actSz ?_) | ((refine wpList_val rfl (bl_act4 _ (fun _ => rfl) _ _ 70 t1 ⟨s1.toArray⟩ ⟨s2.toArray⟩ oz lg ⟨s5.toArray⟩ rfl rfl) ?_)) | (at_builtin; rw [← HWN.out]; refine wpList_append_own _ rfl (.tmp 69) (.tmp 71) 42 rfl w.heap.size 45 i0 (.agg #[.int .i64 0, .string ⟨#[]⟩, .string ⟨#[]⟩, .int .i64 0, .int .i64 0, .string ⟨#[]⟩]) 6 72 Tryz.underlying42 hi0 hz0 hz1 hz2 rfl (by decide) vo L.length ((L.map Vact.cells).flatten) rfl HON.out ⟨w13.heap.size, 0, none⟩ 1 1 [.int .i64 t1, .string ⟨s1.toArray⟩, .string ⟨s2.toArray⟩, .int .i64 oz, .int .i64 lg, .string ⟨s5.toArray⟩] rfl rfl HNW.out (by intro u hu; simp at hu; rcases hu with rfl | rfl | rfl | rfl | rfl | rfl <;> rfl) HLM.out.1 HLM.out.2 hbw ?_; intro vn wx hon hgn _))
                                have HOX : Hid (VactRow wx w.heap.size vn (L ++ [⟨t1, s1, s2, oz, lg, s5⟩])) := by
                                  show VactRow _ _ _ _
                                  unfold VactRow
                                  rw [List.map_append, List.flatten_append, List.length_append]
                                  exact hon
                                have HOB : Hid (∀ b, vo.ownBlock = some b → w.heap.size ≤ b ∧ b < wn.heap.size) := fun b hb => HON.out.lt b hb
                                have HSX : Hid (StreamOk wx S (k + 14 * (i + 1))) := (HSN.out.upto ⟨hgn.os, hgn.tape, hgn.output, hgn.size, fun j hj => hgn.block j (by have := HSN.out.lt; omega) (fun e => by have := (HOB.out j e.symm).1; omega)⟩).mono (by omega)
                                have HKX : Hid (Keeps S w wx) := ⟨hgn.os.trans HKN.out.os, hgn.tape.trans HKN.out.tape, hgn.output.trans HKN.out.output, Nat.le_trans HKN.out.size hgn.size, fun j hj hjS => (hgn.block j (Nat.lt_of_lt_of_le hj HKN.out.size) (fun e => by have := (HOB.out j e.symm).1; omega)).trans (HKN.out.block j hj hjS)⟩
                                have HAX : Hid (∀ y ∈ L ++ [(⟨t1, s1, s2, oz, lg, s5⟩ : Vact)], ActB y) := fun y hy => by
                                  rcases List.mem_append.1 hy with hy | hy
                                  · exact HA.out y hy
                                  · rw [List.mem_singleton.1 hy]
                                    exact ⟨by show _ ≤ t1; omega, by show t1 ≤ _; omega, by show _ ≤ oz; omega, by show oz ≤ _; omega, by show _ ≤ lg; omega, by show lg ≤ _; omega, (Nat.le_trans HLs1.out (by decide)), (Nat.le_trans HLs2.out (by decide)), (Nat.le_trans HLs5.out (by decide))⟩
                                clear hon hgn HON HSN HKN HWN HNW HZN HOB HRG
                                as_aux_lemma =>
                                  go_wp2_with fail
                                  go_roundw
                                  case rel => exact ⟨i + 1, t1, L ++ [⟨t1, s1, s2, oz, lg, s5⟩], by omega, by go_num, rfl, by omega, by omega, by rw [List.length_append, hLl]; rfl, HAX, HOX, HSX, HKX⟩
                                  case measure => simp [intOf]; omega
                        · skip
                          as_aux_lemma =>
                            go_wp2_with fail
                            refine (odd_any S (k + 14 * i + 8) 1 1000 _ HS11.out (by omega) (by omega) (by omega) (by omega)).mono ?_
                            rintro e w12 ⟨oz, rfl, ⟨oz0, oz1⟩, hst, hk'⟩
                            have HS12 := Lib.hid (hst.mono (k' := k + 14 * i + 10) (by omega))
                            have HK12 := Lib.hid (HK11.out.trans hk')
                            have O12 := Lib.hid (own_keeps O11.out hk' hSw)
                            have Q12 := Lib.hid (Q11.out.keeps hk' hQS)
                            clear hst hk' HS11 HK11 O11 Q11
                            as_aux_lemma =>
                              go_wp2_with ((refine wpList_val rfl (bl_act2 _ (fun _ => rfl) _ _  ⟨#[120]⟩ ⟨#[43, 49, 50]⟩ ⟨#[43, 48, 49, 50, 51, 52, 53]⟩ rfl) ?_))
                              refine (some_lit S (k + 14 * i + 10) [[120], [43, 49, 50], [43, 48, 49, 50, 51, 52, 53]] (fun s => s.length ≤ 8) _ _ _ HS12.out (by omega) rfl rfl (by decide) (by decide) (by decide)).mono ?_
                              rintro e w13 ⟨u5, rfl, hu5, hst, hk'⟩
                              have HLu5 := Lib.hid hu5
                              clear hu5
                              have HS13 := Lib.hid (hst.mono (k' := k + 14 * i + 11) (by omega))
                              have HK13 := Lib.hid (HK12.out.trans hk')
                              have O13 := Lib.hid (own_keeps O12.out hk' hSw)
                              have Q13 := Lib.hid (Q12.out.keeps hk' hQS)
                              clear hst hk' HS12 HK12 O12 Q12
                              have HBu5 : Hid ((⟨u5.toArray⟩ : ByteArray) = ⟨u5.toArray⟩) := rfl
                              clear HBu5
                              have sc4 := Q13.out.cell 4 rfl
                              have sf4 := Q13.out.fr 4
                              have sc5 := Q13.out.cell 5 rfl
                              have sf5 := Q13.out.fr 5
                              as_aux_lemma =>
                                go_upto_region 18 with (fail)
                                clear sc4 sf4 sc5 sf5
                                have HS14 : Hid (StreamOk ((w13.setCell ⟨Q, 4, none⟩ (.int .i64 oz)).setCell ⟨Q, 5, none⟩ (.string ⟨u5.toArray⟩)) S (k + 14 * i + 11)) := (stream_setQ (stream_setQ HS13.out hSQ) hSQ)
                                have HK14 : Hid (Keeps S w ((w13.setCell ⟨Q, 4, none⟩ (.int .i64 oz)).setCell ⟨Q, 5, none⟩ (.string ⟨u5.toArray⟩))) := ((HK13.out.setCell_new hwQ _).setCell_new hwQ _)
                                have O14 : Hid (VactRow ((w13.setCell ⟨Q, 4, none⟩ (.int .i64 oz)).setCell ⟨Q, 5, none⟩ (.string ⟨u5.toArray⟩)) w.heap.size vo L) := (own_set1 (own_set1 O13.out HNQ.out) HNQ.out)
                                have Q14 : Hid (Blk ((w13.setCell ⟨Q, 4, none⟩ (.int .i64 oz)).setCell ⟨Q, 5, none⟩ (.string ⟨u5.toArray⟩)) Q [.int .i64 t1, .string ⟨s1.toArray⟩, .string ⟨s2.toArray⟩, .int .i64 1, .int .i64 oz, .string ⟨u5.toArray⟩] 45) := ((Q13.out.put 4 _).put 5 _)
                                generalize ((w13.setCell ⟨Q, 4, none⟩ (.int .i64 oz)).setCell ⟨Q, 5, none⟩ (.string ⟨u5.toArray⟩)) = w14 at HS14 HK14 O14 Q14 ⊢
                                clear HS13 HK13 O13 Q13
                                obtain ⟨wn, hwn⟩ : ∃ w', w' = (w14.alloc (.cells #[.int .i64 t1, .string ⟨s1.toArray⟩, .string ⟨s2.toArray⟩, .int .i64 1, .int .i64 oz, .string ⟨u5.toArray⟩] 45)) := ⟨_, rfl⟩
                                have hbn : Below w14.heap.size w14 wn := by rw [hwn]; exact ext_alloc (Below.refl _ _)
                                have HZN : Hid (Blk wn w14.heap.size [.int .i64 t1, .string ⟨s1.toArray⟩, .string ⟨s2.toArray⟩, .int .i64 1, .int .i64 oz, .string ⟨u5.toArray⟩] 45) := by rw [hwn]; exact Blk.new _ _ _
                                have HNW : Hid (∀ j u, ([.int .i64 t1, .string ⟨s1.toArray⟩, .string ⟨s2.toArray⟩, .int .i64 1, .int .i64 oz, .string ⟨u5.toArray⟩] : List Value)[j]? = some u → wn.cell? ((⟨w14.heap.size, 0, none⟩ : Addr).add j) = some u) := fun j u hj => by
                                  rw [show (⟨w14.heap.size, 0, none⟩ : Addr).add j = ⟨w14.heap.size, j, none⟩ by cases j <;> simp [Addr.add]]
                                  exact HZN.out.cell j hj
                                have HON : Hid (wn.ownsRow w.heap.size 45 6 vo L.length ((L.map Vact.cells).flatten)) := own_keep O14.out hbn
                                have HSN := Lib.hid (HS14.out.below hbn)
                                have HKN := Lib.hid (HK14.out.trans (Keeps.of_below hbn))
                                have HWN := Lib.hid hwn
                                have HLM : Hid (L.length + 1 ≤ maxLen ∧ (L.length + 1) * 72 ≤ 140737488355328) := ⟨by unfold maxLen; omega, by omega⟩
                                have hbw : w.heap.size ≤ wn.heap.size := HKN.out.size
                                have HRG : Hid (w14.rangeAt Q 0 [.int .i64 t1, .string ⟨s1.toArray⟩, .string ⟨s2.toArray⟩, .int .i64 1, .int .i64 oz, .string ⟨u5.toArray⟩]) := fun j v hj => by rw [Nat.zero_add]; exact Q14.out.cell j hj
                                clear hbn hwn HS14 HK14 O14 Q14
                                as_aux_lemma =>
                                  go_upto_region 19 with (first | (refine wpList_load_mid rfl 45 (.tmp 7) rfl Q 0 rfl [.int .i64 t1, .string ⟨s1.toArray⟩, .string ⟨s2.toArray⟩, .int .i64 1, .int .i64 oz, .string ⟨u5.toArray⟩] _ HRG.out Tryz.underlying45 rfl Tryz.actSz ?_) | ((refine wpList_val rfl (bl_act4 _ (fun _ => rfl) _ _ 70 t1 ⟨s1.toArray⟩ ⟨s2.toArray⟩ 1 oz ⟨u5.toArray⟩ rfl rfl) ?_)) | (at_builtin; rw [← HWN.out]; refine wpList_append_own _ rfl (.tmp 69) (.tmp 71) 42 rfl w.heap.size 45 i0 (.agg #[.int .i64 0, .string ⟨#[]⟩, .string ⟨#[]⟩, .int .i64 0, .int .i64 0, .string ⟨#[]⟩]) 6 72 Tryz.underlying42 hi0 hz0 hz1 hz2 rfl (by decide) vo L.length ((L.map Vact.cells).flatten) rfl HON.out ⟨w14.heap.size, 0, none⟩ 1 1 [.int .i64 t1, .string ⟨s1.toArray⟩, .string ⟨s2.toArray⟩, .int .i64 1, .int .i64 oz, .string ⟨u5.toArray⟩] rfl rfl HNW.out (by intro u hu; simp at hu; rcases hu with rfl | rfl | rfl | rfl | rfl | rfl <;> rfl) HLM.out.1 HLM.out.2 hbw ?_; intro vn wx hon hgn _))
                                  have HOX : Hid (VactRow wx w.heap.size vn (L ++ [⟨t1, s1, s2, 1, oz, u5⟩])) := by
                                    show VactRow _ _ _ _
                                    unfold VactRow
                                    rw [List.map_append, List.flatten_append, List.length_append]
                                    exact hon
                                  have HOB : Hid (∀ b, vo.ownBlock = some b → w.heap.size ≤ b ∧ b < wn.heap.size) := fun b hb => HON.out.lt b hb
                                  have HSX : Hid (StreamOk wx S (k + 14 * (i + 1))) := (HSN.out.upto ⟨hgn.os, hgn.tape, hgn.output, hgn.size, fun j hj => hgn.block j (by have := HSN.out.lt; omega) (fun e => by have := (HOB.out j e.symm).1; omega)⟩).mono (by omega)
                                  have HKX : Hid (Keeps S w wx) := ⟨hgn.os.trans HKN.out.os, hgn.tape.trans HKN.out.tape, hgn.output.trans HKN.out.output, Nat.le_trans HKN.out.size hgn.size, fun j hj hjS => (hgn.block j (Nat.lt_of_lt_of_le hj HKN.out.size) (fun e => by have := (HOB.out j e.symm).1; omega)).trans (HKN.out.block j hj hjS)⟩
                                  have HAX : Hid (∀ y ∈ L ++ [(⟨t1, s1, s2, 1, oz, u5⟩ : Vact)], ActB y) := fun y hy => by
                                    rcases List.mem_append.1 hy with hy | hy
                                    · exact HA.out y hy
                                    · rw [List.mem_singleton.1 hy]
                                      exact ⟨by show _ ≤ t1; omega, by show t1 ≤ _; omega, by show _ ≤ 1; omega, by show 1 ≤ _; omega, by show _ ≤ oz; omega, by show oz ≤ _; omega, (Nat.le_trans HLs1.out (by decide)), (Nat.le_trans HLs2.out (by decide)), (Nat.le_trans HLu5.out (by decide))⟩
                                  clear hon hgn HON HSN HKN HWN HNW HZN HOB HRG
                                  as_aux_lemma =>
                                    go_wp2_with fail
                                    go_roundw
                                    case rel => exact ⟨i + 1, t1, L ++ [⟨t1, s1, s2, 1, oz, u5⟩], by omega, by go_num, rfl, by omega, by omega, by rw [List.length_append, hLl]; rfl, HAX, HOX, HSX, HKX⟩
                                    case measure => simp [intOf]; omega
                        · skip
                          as_aux_lemma =>
                            go_wp2_with fail
                            refine (odd_any S (k + 14 * i + 8) 0 1000 _ HS11.out (by omega) (by omega) (by omega) (by omega)).mono ?_
                            rintro e w12 ⟨oz, rfl, ⟨oz0, oz1⟩, hst, hk'⟩
                            have HS12 := Lib.hid (hst.mono (k' := k + 14 * i + 10) (by omega))
                            have HK12 := Lib.hid (HK11.out.trans hk')
                            have O12 := Lib.hid (own_keeps O11.out hk' hSw)
                            have Q12 := Lib.hid (Q11.out.keeps hk' hQS)
                            clear hst hk' HS11 HK11 O11 Q11
                            have sc0 := Q12.out.cell 0 rfl
                            have sf0 := Q12.out.fr 0
                            as_aux_lemma =>
                              go_upto_region 18 with (fail)
                              clear sc0 sf0
                              have HS13 : Hid (StreamOk (w12.setCell ⟨Q, 0, none⟩ (.int .i64 oz)) S (k + 14 * i + 10)) := (stream_setQ HS12.out hSQ)
                              have HK13 : Hid (Keeps S w (w12.setCell ⟨Q, 0, none⟩ (.int .i64 oz))) := (HK12.out.setCell_new hwQ _)
                              have O13 : Hid (VactRow (w12.setCell ⟨Q, 0, none⟩ (.int .i64 oz)) w.heap.size vo L) := (own_set1 O12.out HNQ.out)
                              have Q13 : Hid (Blk (w12.setCell ⟨Q, 0, none⟩ (.int .i64 oz)) Q [.int .i64 oz, .string ⟨s1.toArray⟩, .string ⟨s2.toArray⟩, .int .i64 1, .int .i64 lg, .string ⟨s5.toArray⟩] 45) := (Q12.out.put 0 _)
                              generalize (w12.setCell ⟨Q, 0, none⟩ (.int .i64 oz)) = w13 at HS13 HK13 O13 Q13 ⊢
                              clear HS12 HK12 O12 Q12
                              obtain ⟨wn, hwn⟩ : ∃ w', w' = (w13.alloc (.cells #[.int .i64 oz, .string ⟨s1.toArray⟩, .string ⟨s2.toArray⟩, .int .i64 1, .int .i64 lg, .string ⟨s5.toArray⟩] 45)) := ⟨_, rfl⟩
                              have hbn : Below w13.heap.size w13 wn := by rw [hwn]; exact ext_alloc (Below.refl _ _)
                              have HZN : Hid (Blk wn w13.heap.size [.int .i64 oz, .string ⟨s1.toArray⟩, .string ⟨s2.toArray⟩, .int .i64 1, .int .i64 lg, .string ⟨s5.toArray⟩] 45) := by rw [hwn]; exact Blk.new _ _ _
                              have HNW : Hid (∀ j u, ([.int .i64 oz, .string ⟨s1.toArray⟩, .string ⟨s2.toArray⟩, .int .i64 1, .int .i64 lg, .string ⟨s5.toArray⟩] : List Value)[j]? = some u → wn.cell? ((⟨w13.heap.size, 0, none⟩ : Addr).add j) = some u) := fun j u hj => by
                                rw [show (⟨w13.heap.size, 0, none⟩ : Addr).add j = ⟨w13.heap.size, j, none⟩ by cases j <;> simp [Addr.add]]
                                exact HZN.out.cell j hj
                              have HON : Hid (wn.ownsRow w.heap.size 45 6 vo L.length ((L.map Vact.cells).flatten)) := own_keep O13.out hbn
                              have HSN := Lib.hid (HS13.out.below hbn)
                              have HKN := Lib.hid (HK13.out.trans (Keeps.of_below hbn))
                              have HWN := Lib.hid hwn
                              have HLM : Hid (L.length + 1 ≤ maxLen ∧ (L.length + 1) * 72 ≤ 140737488355328) := ⟨by unfold maxLen; omega, by omega⟩
                              have hbw : w.heap.size ≤ wn.heap.size := HKN.out.size
                              have HRG : Hid (w13.rangeAt Q 0 [.int .i64 oz, .string ⟨s1.toArray⟩, .string ⟨s2.toArray⟩, .int .i64 1, .int .i64 lg, .string ⟨s5.toArray⟩]) := fun j v hj => by rw [Nat.zero_add]; exact Q13.out.cell j hj
                              clear hbn hwn HS13 HK13 O13 Q13
                              as_aux_lemma =>
                                go_upto_region 19 with (first | (refine wpList_load_mid rfl 45 (.tmp 7) rfl Q 0 rfl [.int .i64 oz, .string ⟨s1.toArray⟩, .string ⟨s2.toArray⟩, .int .i64 1, .int .i64 lg, .string ⟨s5.toArray⟩] _ HRG.out Tryz.underlying45 rfl Tryz.actSz ?_) | ((refine wpList_val rfl (bl_act4 _ (fun _ => rfl) _ _ 70 oz ⟨s1.toArray⟩ ⟨s2.toArray⟩ 1 lg ⟨s5.toArray⟩ rfl rfl) ?_)) | (at_builtin; rw [← HWN.out]; refine wpList_append_own _ rfl (.tmp 69) (.tmp 71) 42 rfl w.heap.size 45 i0 (.agg #[.int .i64 0, .string ⟨#[]⟩, .string ⟨#[]⟩, .int .i64 0, .int .i64 0, .string ⟨#[]⟩]) 6 72 Tryz.underlying42 hi0 hz0 hz1 hz2 rfl (by decide) vo L.length ((L.map Vact.cells).flatten) rfl HON.out ⟨w13.heap.size, 0, none⟩ 1 1 [.int .i64 oz, .string ⟨s1.toArray⟩, .string ⟨s2.toArray⟩, .int .i64 1, .int .i64 lg, .string ⟨s5.toArray⟩] rfl rfl HNW.out (by intro u hu; simp at hu; rcases hu with rfl | rfl | rfl | rfl | rfl | rfl <;> rfl) HLM.out.1 HLM.out.2 hbw ?_; intro vn wx hon hgn _))
                                have HOX : Hid (VactRow wx w.heap.size vn (L ++ [⟨oz, s1, s2, 1, lg, s5⟩])) := by
                                  show VactRow _ _ _ _
                                  unfold VactRow
                                  rw [List.map_append, List.flatten_append, List.length_append]
                                  exact hon
                                have HOB : Hid (∀ b, vo.ownBlock = some b → w.heap.size ≤ b ∧ b < wn.heap.size) := fun b hb => HON.out.lt b hb
                                have HSX : Hid (StreamOk wx S (k + 14 * (i + 1))) := (HSN.out.upto ⟨hgn.os, hgn.tape, hgn.output, hgn.size, fun j hj => hgn.block j (by have := HSN.out.lt; omega) (fun e => by have := (HOB.out j e.symm).1; omega)⟩).mono (by omega)
                                have HKX : Hid (Keeps S w wx) := ⟨hgn.os.trans HKN.out.os, hgn.tape.trans HKN.out.tape, hgn.output.trans HKN.out.output, Nat.le_trans HKN.out.size hgn.size, fun j hj hjS => (hgn.block j (Nat.lt_of_lt_of_le hj HKN.out.size) (fun e => by have := (HOB.out j e.symm).1; omega)).trans (HKN.out.block j hj hjS)⟩
                                have HAX : Hid (∀ y ∈ L ++ [(⟨oz, s1, s2, 1, lg, s5⟩ : Vact)], ActB y) := fun y hy => by
                                  rcases List.mem_append.1 hy with hy | hy
                                  · exact HA.out y hy
                                  · rw [List.mem_singleton.1 hy]
                                    exact ⟨by show _ ≤ oz; omega, by show oz ≤ _; omega, by show _ ≤ 1; omega, by show 1 ≤ _; omega, by show _ ≤ lg; omega, by show lg ≤ _; omega, (Nat.le_trans HLs1.out (by decide)), (Nat.le_trans HLs2.out (by decide)), (Nat.le_trans HLs5.out (by decide))⟩
                                clear hon hgn HON HSN HKN HWN HNW HZN HOB HRG
                                as_aux_lemma =>
                                  go_wp2_with fail
                                  go_roundw
                                  case rel => exact ⟨i + 1, t1, L ++ [⟨oz, s1, s2, 1, lg, s5⟩], by omega, by go_num, rfl, by omega, by omega, by rw [List.length_append, hLl]; rfl, HAX, HOX, HSX, HKX⟩
                                  case measure => simp [intOf]; omega
def RightP (S k m : Nat) (w : World) (e : Ending) (w' : World) : Prop := ∃ v l, e = .returned v ∧ VactRow w' w.heap.size v l ∧ l.length ≤ m ∧ (∀ a ∈ l, ActB a) ∧ ActsOk l ∧ StreamOk w' S k ∧ Keeps S w w'
set_option maxRecDepth 100000 in
set_option maxHeartbeats 8000000 in
theorem rightActs_any (S k m : Nat) (w : World) (h : StreamOk w S k) (hk : k ≤ 800000) (hm : m ≤ 10) : Calls Tryz.prog 12 #[.pointer (some ⟨S, 0, none⟩), .int .i64 m] w (RightP S (k + 1000) m w) := by
  have hSw := h.lt
  have HS0 := Lib.hid h
  clear h
  go_enter Tryz.func12, Tryz.ntmps12
  go_wp2_with fail
  go_loopw [6] (fun it wr => ∃ i : Nat, i ≤ 5 ∧ it = .int .i64 i ∧ Hid (StreamOk wr S (k + 150 * i)) ∧ Hid (Keeps S w wr)) (fun it _ => 5 - (intOf it).toNat)
  case atStart => exact ⟨0, by omega, rfl, HS0.out, Keeps.refl _ _⟩
  case round =>
    clear HS0
    obtain ⟨i, hi, rfl, HS1, HK1⟩ := hrel
    by_cases hlt : i < 5
    case neg =>
      have hin : ¬ ((i : Int) < 5) := by omega
      have HE : Hid (RightP S (k + 1000) m w (.returned (.slice none 0 0)) wr) := ⟨_, [], rfl, World.ownsRow_nil _ _ _ _, Nat.zero_le _, (fun a ha => by cases ha), ActsOk.nil, HS1.out.mono (by omega), HK1.out⟩
      as_aux_lemma =>
        go_wp2_with fail
        go_ret
        exact HE.out
    have hin : (i : Int) < 5 := by omega
    as_aux_lemma =>
      go_wp2_with fail
      refine (acts_any S (k + 150 * i) m _ HS1.out (by omega) hm).mono ?_
      rintro e w2 ⟨v, l, rfl, hr, hl, hab, hst, hk'⟩
      have HR := Lib.hid hr
      have HAB := Lib.hid hab
      have HS2 : Hid (StreamOk w2 S (k + 150 * (i + 1))) := hst.mono (by omega)
      have HK2 := Lib.hid (HK1.out.trans hk')
      have hbw : w.heap.size ≤ wr.heap.size := HK1.out.size
      have HF := Lib.hid (actsFault_any w2 _ v l hr (by omega) hab)
      clear hr hab hst hk' HS1 HK1
      as_aux_lemma =>
        go_wp2_with fail
        refine HF.out.mono ?_
        rintro e w3 ⟨E, rfl, hE, hb⟩
        have HS3 := Lib.hid (HS2.out.below hb)
        have HK3 := Lib.hid (HK2.out.ext hb)
        have HR3 : Hid (VactRow w3 w.heap.size v l) := own_le (own_keep HR.out hb) hbw
        have HEE := Lib.hid hE
        clear hE hb HS2 HK2 HR HF
        by_cases hE0 : E = 0
        · subst hE0
          have HE : Hid (RightP S (k + 1000) m w (.returned v) w3) := ⟨v, l, rfl, HR3.out, hl, HAB.out, HEE.out rfl, HS3.out.mono (by omega), HK3.out⟩
          as_aux_lemma =>
            go_wp2_with fail
            go_ret
            exact HE.out
        · have hEb : (E == 0) = false := by simpa using hE0
          as_aux_lemma =>
            go_wp2_with fail
            go_roundw
            case rel => exact ⟨i + 1, by omega, by go_num, HS3, HK3⟩
            case measure => simp [intOf]; omega
end Go.Proofs.YtamoclofloijpaaGreatDoor

set_option linter.unusedVariables false
set_option linter.unusedSimpArgs false
namespace Go.Proofs.YtamoclofloijpaaGreatDoor
open Go.RowKit

theorem jbl_write (B b : Nat) (bs : List Value) (s : ByteArray) (w : World) (h : Lib.IsBuilder 95 5 B b bs w) (hlen : bs.length + s.size ≤ 140737488355328) (hBw : B ≤ w.heap.size) :
    Calls Tryz.prog 42 #[.pointer (some ⟨b, 0, none⟩), .string s] w fun e w' => e = .returned (.tuple #[.int .i64 s.size, .nilIface]) ∧ (Lib.BuilderAt 95 5 B b (.pointer (some ⟨b, 0, none⟩)) (bs ++ Lib.strCells s) w' ∧ Below B w w') := Any.Builder_WriteString { Tryz.lays156 with } Tryz.extra156 B b bs s w h hlen hBw
theorem jbl_string (B b : Nat) (l : List UInt8) (w : World) (h : Lib.IsBuilder 95 5 B b (Lib.byteCells l) w) (hBw : B ≤ w.heap.size) :
    Calls Tryz.prog 45 #[.pointer (some ⟨b, 0, none⟩)] w fun e w' => e = .returned (.string ⟨l.toArray⟩) ∧ Below B w w' := Any.Builder_String_any { Tryz.lays156 with } Tryz.extra156 B b l w h hBw
theorem jbl_writeL (B b : Nat) (bs : List Value) (l : List UInt8) (w : World) (h : Lib.IsBuilder 95 5 B b bs w) (hlen : bs.length + l.length ≤ 140737488355328) (hBw : B ≤ w.heap.size) :
    Calls Tryz.prog 42 #[.pointer (some ⟨b, 0, none⟩), .string ⟨l.toArray⟩] w fun e w' => e = .returned (.tuple #[.int .i64 (l.length : Int), .nilIface]) ∧ (Lib.BuilderAt 95 5 B b (.pointer (some ⟨b, 0, none⟩)) (bs ++ Lib.strCells ⟨l.toArray⟩) w' ∧ Below B w w') := by
  have h9 := jbl_write B b bs ⟨l.toArray⟩ w h (by rw [size_l]; exact hlen) hBw
  rw [size_l] at h9
  exact h9
theorem joinW (xs : List (List UInt8)) (g c : Nat) (w : World) (hc : ∀ j, j < xs.length → w.cell? ⟨g, j, none⟩ = some (.string ⟨(xs.getD j []).toArray⟩)) (hg : g < w.heap.size) (hcap : xs.length ≤ c) (hlen : (spaced xs).length ≤ 100000) (hn : xs.length ≤ 1000) :
    Calls Tryz.prog 43 #[.slice (some ⟨g, 0, none⟩) xs.length c, .string ⟨#[32]⟩] w fun e w' => e = .returned (.string ⟨(spaced xs).toArray⟩) ∧ Below w.heap.size w w' := by
  have e1 : (xs.map (fun x => (⟨x.toArray⟩ : ByteArray))).map (·.data.toList) = xs := by simp [Function.comp_def]
  have e2 : Lib.join ((xs.map (fun x => (⟨x.toArray⟩ : ByteArray))).map (·.data.toList)) [32] = spaced xs := by rw [e1, join_spaced]
  have := Tryz.strings_Join g 0 c (xs.map (fun x => ⟨x.toArray⟩)) ⟨#[32]⟩ w (fun j x hx => by
    rw [List.getElem?_map] at hx
    cases hj : xs[j]? with
    | none => rw [hj] at hx; cases hx
    | some y =>
      rw [hj] at hx
      injection hx with hx
      have hjl : j < xs.length := (List.getElem?_eq_some_iff.1 hj).1
      rw [Nat.zero_add, hc j hjl, ← hx, List.getD_eq_getElem?_getD, hj]
      rfl) hg (by rw [List.length_map]; omega) (by rw [List.length_map]; exact hcap) (by
    show (Lib.join _ [32]).length ≤ _
    rw [e2]; omega)
  rw [List.length_map] at this
  refine this.mono fun e w' h => ⟨?_, h.2⟩
  rw [h.1]
  show Ending.returned (Value.string ⟨(Lib.join _ [32]).toArray⟩) = _
  rw [e2]
end Go.Proofs.YtamoclofloijpaaGreatDoor
