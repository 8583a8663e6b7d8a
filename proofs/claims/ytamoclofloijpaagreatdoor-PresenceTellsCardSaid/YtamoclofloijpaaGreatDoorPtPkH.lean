/- What is proved here: lemmas and contracts for the statement, put together out of smaller texts (ActTxt, DkpN15, ActRdw, ActRd1). No condition beyond those stated. -/
import Derived.Test.YtamoclofloijpaaGreatDoorPtPkE
import Derived.Test.YtamoclofloijpaaGreatDoorPtPkG
import Derived.Test.YtamoclofloijpaaGreatDoorPtPkC
import Derived.Test.YtamoclofloijpaaGreatDoorPtPkD
import Derived.Test.YtamoclofloijpaaGreatDoorPtPkA
set_option linter.unusedVariables false
set_option linter.unusedSimpArgs false
namespace Go.Proofs.YtamoclofloijpaaGreatDoor
open Go.RowKit Go.Sort Go.Lib

theorem wp_valX {P : Program} {o : Oper} {a : Act} {w w' : World} {v : Value} {K : Act → World → Prop} {Q : Exit → Act → World → Prop} (h : (execOp a.eval o).run P w = .ok (.value v) w') (hK : K (a.put o.dst v) w') : Oper.wp P o a w K Q := by
  unfold Oper.wp; rw [h]; exact hK
def wordsA : List (List UInt8) := [[108, 101, 102, 116], [104, 101, 97, 114, 100], [107, 101, 112, 116], [100, 101, 108, 101, 116, 101, 100], [98, 97, 99, 107]]
theorem wordsA_at {k : Int} (h1 : 1 ≤ k) (h5 : k ≤ 5) : wordsA[(k - 1).toNat]? = some (kindW k) := by
  have : k = 1 ∨ k = 2 ∨ k = 3 ∨ k = 4 ∨ k = 5 := by omega
  rcases this with rfl | rfl | rfl | rfl | rfl <;> rfl
theorem kindW_len (k : Int) : (kindW k).length ≤ 7 := by
  unfold kindW
  repeat' split
  all_goals decide
theorem key_len {s : List UInt8} (h : isKeyB s = true) : s.length ≤ 40 := by
  unfold isKeyB at h
  simp only [Bool.and_eq_true, decide_eq_true_eq] at h
  exact h.2.1
theorem frmW_len {s : List UInt8} (h : s.length ≤ 8) : (frmW s).length ≤ 8 := by unfold frmW; split <;> first | decide | exact h
theorem bld_gb {T e : TypeId} {B b : Nat} {bs : List Value} {w w' : World} (h : Lib.IsBuilder T e B b bs w) {base e2 size2 n2 : Nat} {v2 : Value} {xs2 : List Value} (hr : w.ownsRow base e2 size2 v2 n2 xs2) (hne : e ≠ e2) (hnb : v2.ownBlock ≠ some b) (hg : w.grownBy w' v2.ownBlock) : Lib.IsBuilder T e B b bs w' := by
  have one : ∀ p, Lib.BuilderAt T e B b p bs w → Lib.BuilderAt T e B b p bs w' := fun p h => by
    have hl := h.lt
    obtain ⟨hB, v, hk, ho, hn⟩ := h
    exact ⟨hB, v, (hg.block b hl (fun e => hnb e.symm)).trans hk, own_gb ho hg (fun bb hb e => own_types ho hr hne bb hb e), hn⟩
  exact h.imp (one _) (one _)
def TextQ (t : List UInt8) (w : World) (e : Ending) (w' : World) : Prop := e = .returned (.tuple #[.string ⟨t.toArray⟩, .int .i64 0]) ∧ Below w.heap.size w w'
theorem actsT_step (l : List Vact) (i : Nat) (hi : i < l.length) : actsT (l.take (i + 1)) = actsT (l.take i) ++ actT (l.getD i default) := by
  unfold actsT
  rw [List.take_add_one, List.getElem?_eq_getElem hi, List.map_append, List.flatten_append]
  simp [List.getD_eq_getElem?_getD, hi]
theorem itoa_len2 (n : Int) (h0 : 0 ≤ n) (h1 : n ≤ 4398046511104) : (Lib.itoa n).length ≤ 21 := Lib.itoa_length_le n (by omega) (by omega)
theorem actW_len {a : Vact} (h : ActGood a) (hb : ActB a) : ∀ x ∈ actW a, x.length ≤ 40 := fun x hx => by
  have hm := h.mom
  unfold isMomB at hm
  simp only [Bool.and_eq_true, decide_eq_true_eq] at hm
  unfold actW at hx
  rw [List.mem_append] at hx
  rcases hx with hx | hx
  · simp only [List.mem_cons, List.not_mem_nil, or_false] at hx
    rcases hx with rfl | rfl | rfl | rfl
    · have := itoa_len2 a.at_ hm.1 (by omega); omega
    · exact key_len h.box
    · exact key_len h.id
    · have := kindW_len a.kind; omega
  · split at hx
    · rename_i hk
      simp only [List.mem_cons, List.not_mem_nil, or_false] at hx
      rcases hx with rfl | rfl
      · have := h.left hk
        have := itoa_len2 a.long (by omega) (by omega); omega
      · have := frmW_len hb.frm; omega
    · cases hx
theorem actT_len {a : Vact} (h : ActGood a) (hb : ActB a) : (spaced (actW a)).length ≤ 246 ∧ (actT a).length ≤ 247 := by
  have h1 := spaced_len (actW a) 40 (actW_len h hb)
  have h2 : (actW a).length ≤ 6 := by unfold actW; split <;> simp
  have h3 : (actW a).length * (40 + 1) ≤ 6 * 41 := Nat.mul_le_mul_right _ h2
  unfold actT
  rw [List.length_append]
  simp only [List.length_cons, List.length_nil]
  omega
theorem actsT_len {l : List Vact} (h : ActsOk l) (hb : ∀ a ∈ l, ActB a) : ∀ i, i ≤ l.length → (actsT (l.take i)).length ≤ 247 * i
  | 0, _ => by simp [actsT]
  | i + 1, hi => by
    have ih := actsT_len h hb i (by omega)
    rw [actsT_step l i (by omega), List.length_append]
    have := (actT_len (h.good _ (getD_mem (show i < l.length by omega))) (hb _ (getD_mem (show i < l.length by omega)))).2
    omega
theorem bl_atx0 (e : Operand → Value) (he : ∀ v, e (.const v) = v) (o : Oper) (w : World)  (p0 : ByteArray) (p1 : ByteArray) (p2 : ByteArray) (p3 : ByteArray) (p4 : ByteArray) (ho : o.op = .buildSlice 82 5 #[(0, .const (.string p0)), (1, .const (.string p1)), (2, .const (.string p2)), (3, .const (.string p3)), (4, .const (.string p4))])  :
   (execOp e o).run Tryz.prog w = .ok (.value (.slice (some ⟨w.heap.size, 0, none⟩) 5 5)) (w.alloc (.cells #[.string p0, .string p1, .string p2, .string p3, .string p4] 9)) := by
  unfold execOp
  rw [ho]
  simp only [List.map_toArray, List.map_cons, List.map_nil, he]
  kernel_rfl
theorem bl_atx1 (e : Operand → Value) (he : ∀ v, e (.const v) = v) (o : Oper) (w : World) (i0 : Nat) (i1 : Nat) (i2 : Nat) (i3 : Nat) (p0 : ByteArray) (p1 : ByteArray) (p2 : ByteArray) (p3 : ByteArray) (ho : o.op = .buildSlice 82 4 #[(0, .tmp i0), (1, .tmp i1), (2, .tmp i2), (3, .tmp i3)]) (h0 : e (.tmp i0) = .string p0) (h1 : e (.tmp i1) = .string p1) (h2 : e (.tmp i2) = .string p2) (h3 : e (.tmp i3) = .string p3) :
   (execOp e o).run Tryz.prog w = .ok (.value (.slice (some ⟨w.heap.size, 0, none⟩) 4 4)) (w.alloc (.cells #[.string p0, .string p1, .string p2, .string p3] 9)) := by
  unfold execOp
  rw [ho]
  simp only [List.map_toArray, List.map_cons, List.map_nil, h0, h1, h2, h3]
  kernel_rfl
theorem bl_atx2 (e : Operand → Value) (he : ∀ v, e (.const v) = v) (o : Oper) (w : World) (i0 : Nat) (i1 : Nat) (p0 : ByteArray) (p1 : ByteArray) (ho : o.op = .buildSlice 82 2 #[(0, .tmp i0), (1, .tmp i1)]) (h0 : e (.tmp i0) = .string p0) (h1 : e (.tmp i1) = .string p1) :
   (execOp e o).run Tryz.prog w = .ok (.value (.slice (some ⟨w.heap.size, 0, none⟩) 2 2)) (w.alloc (.cells #[.string p0, .string p1] 9)) := by
  unfold execOp
  rw [ho]
  simp only [List.map_toArray, List.map_cons, List.map_nil, h0, h1]
  kernel_rfl
set_option maxRecDepth 100000 in
theorem wordsA_any (w : World) : Calls Tryz.prog 41 #[] w fun e w' => e = .returned (.slice (some ⟨w.heap.size, 0, none⟩) 5 5) ∧ w' = w.alloc (.cells #[.string ⟨#[108, 101, 102, 116]⟩, .string ⟨#[104, 101, 97, 114, 100]⟩, .string ⟨#[107, 101, 112, 116]⟩, .string ⟨#[100, 101, 108, 101, 116, 101, 100]⟩, .string ⟨#[98, 97, 99, 107]⟩] 9) := by
  go_enter Tryz.func41, Tryz.ntmps41
  go_wp2_with ((refine wpList_val rfl (bl_atx0 _ (fun _ => rfl) _ _  ⟨#[108, 101, 102, 116]⟩ ⟨#[104, 101, 97, 114, 100]⟩ ⟨#[107, 101, 112, 116]⟩ ⟨#[100, 101, 108, 101, 116, 101, 100]⟩ ⟨#[98, 97, 99, 107]⟩ rfl) ?_))
  go_ret
  exact ⟨rfl, rfl⟩
set_option maxRecDepth 100000 in
set_option maxHeartbeats 16000000 in
theorem textA_any (w : World) (base : Nat) (v : Value) (l : List Vact) (h : VactRow w base v l) (hl : l.length ≤ 10) (hok : ActsOk l) (hb : ∀ a ∈ l, ActB a) (S : Nat) (hT : TabW S w) (hS : S ≤ w.heap.size) :
    Calls Tryz.prog 15 #[v] w (TextQ (actsT l) w) := by
  obtain ⟨is0, his0, hzs0, hzs1, hzs2⟩ := info_parts Tryz.infoStr
  have HCK := Lib.hid (checkActs_any w base v l h (by omega) hok (fun a ha => by have := hb a ha; exact ⟨by have := this.frm; omega, by have := this.box; omega, by have := this.id; omega⟩))
  have HO : Hid (w.ownsRow base 45 6 v l.length ((l.map Vact.cells).flatten)) := h
  unfold VactRow at h
  obtain ⟨a, cap, rfl⟩ := own_shape h
  have HST := Lib.hid (actsT_step l)
  have HTL := Lib.hid (actsT_len hok hb)
  have HTW : Hid (∀ W, Below w.heap.size w W → TabW S W) := fun W hW => tab_below hT hW hS
  have HIT : Hid (∀ z W, 0 ≤ z → z ≤ 4398046511104 → Below w.heap.size w W → Calls Tryz.prog 40 #[.int .i64 z] W fun e w' => e = .returned (.string ⟨(Lib.itoa z).toArray⟩) ∧ Below W.heap.size W w') := fun z W h0 h1 hW => itoa_any z (by omega) (by omega) S W (HTW.out W hW)
  have HOK := Lib.hid hok
  have HAB := Lib.hid hb
  clear HTW hT
  obtain ⟨n, hn⟩ : ∃ n, n = l.length := ⟨_, rfl⟩
  have HN := Lib.hid hn
  rw [← hn] at HO HCK hl ⊢
  clear hn h hok hb
  go_enter Tryz.func15, Tryz.ntmps15
  go_wp2_with fail
  refine HCK.out.mono ?_
  rintro e w2 ⟨rfl, hb⟩
  have HB2 := Lib.hid hb
  have hw2 : w.heap.size ≤ w2.heap.size := hb.size
  clear hb HCK
  have HBD : Hid (Lib.IsBuilder 95 5 w2.heap.size w2.heap.size [] (w2.alloc (.cells #[.pointer none, .slice none 0 0] 95))) := Lib.fresh_isBuilder _ _ w2
  have HB1 : Hid (Below w.heap.size w (w2.alloc (.cells #[.pointer none, .slice none 0 0] 95))) := ext_trans HB2.out (ext_alloc (Below.refl _ _))
  as_aux_lemma =>
    go_upto_region 5 with (fail)
    generalize w2.alloc (.cells #[.pointer none, .slice none 0 0] 95) = w1 at HBD HB1 ⊢
    obtain ⟨B, hB⟩ : ∃ B, B = w2.heap.size := ⟨_, rfl⟩
    rw [← hB] at HBD hw2
    simp only [← hB]
    clear hB HB2
    have HBZ : Hid (Lib.IsBuilder 95 5 B B (Lib.byteCells (actsT (l.take 0))) w1) := HBD.out
    clear HBD
    as_aux_lemma =>
      go_wp2_with fail
      go_loopw [17] (fun it wr => ∃ i : Nat, i ≤ n ∧ it = .int .i64 i ∧ Hid (Lib.IsBuilder 95 5 B B (Lib.byteCells (actsT (l.take i))) wr) ∧ Hid (Below B w1 wr)) (fun it _ => n - (intOf it).toNat)
      case atStart => exact ⟨0, Nat.zero_le _, rfl, HBZ.out, Below.refl _ _⟩
      case round =>
        clear HBZ
        obtain ⟨i, hi, rfl, HL, HBq⟩ := hrel
        by_cases hlt : i < n
        case neg =>
          obtain rfl : i = n := by omega
          have hin : ¬ ((i : Int) < (i : Int)) := by omega
          have hlen9 := HTL.out i (by have := HN.out; omega)
          have HAL : Hid (actsT (l.take i) = actsT l) := by show _ = _; rw [List.take_of_length_le (by have := HN.out; omega)]
          rw [HAL.out] at HL hlen9
          obtain ⟨DT, hDT⟩ : ∃ D, D = actsT l := ⟨_, rfl⟩
          rw [← hDT] at HL hlen9
          have HDT := Lib.hid hDT
          clear HAL HST HTL HIT hDT
          as_aux_lemma =>
            go_wp2_with fail
            refine (Tryz.builder_LenT B B _ wr HL.out).mono ?_
            rintro e w9 ⟨rfl, hw9⟩
            replace hw9 := hw9.symm
            subst hw9
            have hlen : ¬ (200000 : Int) < ((Lib.byteCells DT).length : Int) := by rw [cells_len]; omega
            as_aux_lemma =>
              go_wp2_with fail
              refine (jbl_string B B DT wr HL.out (Nat.le_of_lt (bld_lt HL.out))).mono ?_
              rintro e w9 ⟨rfl, hb9⟩
              have HB9 : Hid (Below w.heap.size w w9) := HB1.out.trans ((HBq.out.trans hb9).mono hw2)
              clear hb9 HL
              as_aux_lemma =>
                go_wp2_with fail
                go_ret2
                exact ⟨by rw [← HDT.out]; rfl, HB9.out⟩
        have hin : (i : Int) < (n : Int) := by omega
        have hil : i < l.length := by have := HN.out; omega
        have HBW : Hid (Below w.heap.size w wr) := HB1.out.trans (HBq.out.mono hw2)
        have hO := own_keep HO.out HBW.out
        obtain ⟨g, rfl, hg0, hgw⟩ := own_pos hO (by have := HN.out; omega)
        have d0 := own_field Vact.cells (fun _ => rfl) hO i 0 default hil (by omega) rfl
        have d1 := own_field Vact.cells (fun _ => rfl) hO i 1 default hil (by omega) rfl
        have d2 := own_field Vact.cells (fun _ => rfl) hO i 2 default hil (by omega) rfl
        have d3 := own_field Vact.cells (fun _ => rfl) hO i 3 default hil (by omega) rfl
        have d4 := own_field Vact.cells (fun _ => rfl) hO i 4 default hil (by omega) rfl
        have d5 := own_field Vact.cells (fun _ => rfl) hO i 5 default hil (by omega) rfl
        have hgd := HOK.out.good _ (getD_mem hil)
        have hab := HAB.out _ (getD_mem hil)
        have HAT := Lib.hid (HST.out i hil)
        have htl := HTL.out i (by omega)
        rw [Nat.add_zero] at d0
        obtain ⟨x, hx⟩ : ∃ x, x = l.getD i default := ⟨_, rfl⟩
        rw [← hx] at d0 d1 d2 d3 d4 d5 hgd hab HAT
        clear hx hO
        have hmom := hgd.mom
        unfold isMomB at hmom
        simp only [Bool.and_eq_true, decide_eq_true_eq] at hmom
        have hk1 := hgd.kind0
        have hk5 := hgd.kind1
        have HLF := Lib.hid hgd.left
        have hlens := actT_len hgd hab
        have hTT : actT x = spaced (actW x) ++ [10] := rfl
        have HAW : Hid (actW x = [Lib.itoa x.at_, x.box, x.id, kindW x.kind] ++ if x.kind = 1 then [Lib.itoa x.long, frmW x.frm] else []) := rfl
        rw [hTT] at HAT
        have hsp := hlens.1
        clear hgd hab hlens hTT
        generalize actW x = AW at HAT HAW hsp
        obtain ⟨x0, x1, x2, x3, x4, x5⟩ := x
        simp only at d0 d1 d2 d3 d4 d5 hmom hk1 hk5 HLF HAW
        obtain ⟨f1, hf1⟩ : ∃ f, f = x1 := ⟨_, rfl⟩
        obtain ⟨f2, hf2⟩ : ∃ f, f = x2 := ⟨_, rfl⟩
        obtain ⟨f5, hf5⟩ : ∃ f, f = x5 := ⟨_, rfl⟩
        subst hf1 hf2 hf5
        obtain ⟨A0, hA0⟩ : ∃ A, A = Lib.itoa x0 := ⟨_, rfl⟩
        have HI0 : Hid (∀ W, Below w.heap.size w W → Calls Tryz.prog 40 #[.int .i64 x0] W fun e w' => e = .returned (.string ⟨A0.toArray⟩) ∧ Below W.heap.size W w') := fun W hW => by rw [hA0]; exact HIT.out x0 W hmom.1 (by omega) hW
        obtain ⟨kW, hkW⟩ : ∃ k, k = kindW x3 := ⟨_, rfl⟩
        rw [← hA0, ← hkW] at HAW
        have HKW : Hid (wordsA[(x3 - 1).toNat]? = some kW) := by rw [hkW]; exact wordsA_at hk1 hk5
        obtain ⟨kn, hkn⟩ : ∃ kn : Nat, x3 - 1 = (kn : Int) := ⟨(x3 - 1).toNat, by omega⟩
        rw [show (x3 - 1).toNat = kn by omega] at HKW
        have hkn5 : kn < 5 := by omega
        have hwk : IntKind.i64.wrap (x3 - 1) = (kn : Int) := by rw [hkn]; exact IntWalk.i64_in _ (by omega)
        have hkni : (kn : Int) < 5 := by omega
        have hkn0 : ¬ ((kn : Int) < 0) := by omega
        clear hA0 hkW hkn hmom
        have X1 : Hid (Blk (wr.alloc (.cells #[.int .i64 x0, .string ⟨f1.toArray⟩, .string ⟨f2.toArray⟩, .int .i64 x3, .int .i64 x4, .string ⟨f5.toArray⟩] 45)) wr.heap.size [.int .i64 x0, .string ⟨f1.toArray⟩, .string ⟨f2.toArray⟩, .int .i64 x3, .int .i64 x4, .string ⟨f5.toArray⟩] 45) := Blk.new _ _ _
        have hA : Below wr.heap.size wr (wr.alloc (.cells #[.int .i64 x0, .string ⟨f1.toArray⟩, .string ⟨f2.toArray⟩, .int .i64 x3, .int .i64 x4, .string ⟨f5.toArray⟩] 45)) := ext_alloc (Below.refl _ _)
        have HB3 := Lib.hid (ext_trans HBW.out hA)
        have HL3 := Lib.hid (bld_keep HL.out hA)
        have HQ3 : Hid (Below B w1 (wr.alloc (.cells #[.int .i64 x0, .string ⟨f1.toArray⟩, .string ⟨f2.toArray⟩, .int .i64 x3, .int .i64 x4, .string ⟨f5.toArray⟩] 45))) := HBq.out.trans (hA.mono (Nat.le_of_lt (bld_lt HL.out)))
        clear hA HBW HL HBq
        as_aux_lemma =>
          go_upto_region 8 with (fail)
          clear d0 d1 d2 d3 d4 d5 hgw
          generalize (wr.alloc (.cells #[.int .i64 x0, .string ⟨f1.toArray⟩, .string ⟨f2.toArray⟩, .int .i64 x3, .int .i64 x4, .string ⟨f5.toArray⟩] 45)) = w3 at X1 HB3 HL3 HQ3 ⊢
          generalize wr.heap.size = XB at X1 ⊢
          have hd : Below w3.heap.size w3 w3.drew := ext_drew (Below.refl _ _)
          have XD := Lib.hid (X1.out.below hd)
          have HBD := Lib.hid (ext_trans HB3.out hd)
          have HLD := Lib.hid (bld_keep HL3.out hd)
          have HQD : Hid (Below B w1 w3.drew) := HQ3.out.trans (hd.mono (Nat.le_of_lt (bld_lt HL3.out)))
          clear hd X1 HB3 HL3 HQ3
          have HCE : Hid (∀ W9, Below w3.drew.heap.size w3.drew W9 → W9.cell? ⟨XB, 0, none⟩ = some (.int .i64 x0) ∧ W9.cell? ⟨XB, 1, none⟩ = some (.string ⟨f1.toArray⟩) ∧ W9.cell? ⟨XB, 2, none⟩ = some (.string ⟨f2.toArray⟩) ∧ W9.cell? ⟨XB, 3, none⟩ = some (.int .i64 x3)) := fun W9 hW => ⟨(XD.out.below hW).cell 0 rfl, (XD.out.below hW).cell 1 rfl, (XD.out.below hW).cell 2 rfl, (XD.out.below hW).cell 3 rfl⟩
          refine region_seqI (S := fun W9 => Below w3.drew.heap.size w3.drew W9) [(true, 0), (true, 1), (true, 3), (true, 4), (true, 5), (true, 6), (true, 8), (true, 9), (true, 10), (false, 2), (false, 7), (false, 11), (false, 12), (false, 13), (true, 14)] (by kernel_rfl) (by kernel_rfl) rfl (by kernel_rfl) (Below.refl _ _) ?_
          generalize w3.drew = wd at XD HBD HLD HQD HCE ⊢
          simp only [seqOps, List.getD_cons_zero, List.getD_cons_succ]
          refine seqI_take (v := .pointer (some ⟨XB, 0, none⟩)) rfl (fun W9 hW => by clear hW; go_simp) (fun _ _ _ h => h) ?_
          simp only [Act.put, List.setIfInBounds_toArray, List.set_cons_zero, List.set_cons_succ]
          refine seqI_take (v := .int .i64 x0) rfl (fun W9 hW => by obtain ⟨p0, p1, p2, p3⟩ := HCE.out W9 hW; clear hW; go_simp) (fun _ _ _ h => h) ?_
          simp only [Act.put, List.setIfInBounds_toArray, List.set_cons_zero, List.set_cons_succ]
          refine seqI_take (v := .pointer (some ⟨XB, 1, none⟩)) rfl (fun W9 hW => by clear hW; go_simp) (fun _ _ _ h => h) ?_
          simp only [Act.put, List.setIfInBounds_toArray, List.set_cons_zero, List.set_cons_succ]
          refine seqI_take (v := .string ⟨f1.toArray⟩) rfl (fun W9 hW => by obtain ⟨p0, p1, p2, p3⟩ := HCE.out W9 hW; clear hW; go_simp) (fun _ _ _ h => h) ?_
          simp only [Act.put, List.setIfInBounds_toArray, List.set_cons_zero, List.set_cons_succ]
          refine seqI_take (v := .pointer (some ⟨XB, 2, none⟩)) rfl (fun W9 hW => by clear hW; go_simp) (fun _ _ _ h => h) ?_
          simp only [Act.put, List.setIfInBounds_toArray, List.set_cons_zero, List.set_cons_succ]
          refine seqI_take (v := .string ⟨f2.toArray⟩) rfl (fun W9 hW => by obtain ⟨p0, p1, p2, p3⟩ := HCE.out W9 hW; clear hW; go_simp) (fun _ _ _ h => h) ?_
          simp only [Act.put, List.setIfInBounds_toArray, List.set_cons_zero, List.set_cons_succ]
          refine seqI_take (v := .pointer (some ⟨XB, 3, none⟩)) rfl (fun W9 hW => by clear hW; go_simp) (fun _ _ _ h => h) ?_
          simp only [Act.put, List.setIfInBounds_toArray, List.set_cons_zero, List.set_cons_succ]
          refine seqI_take (v := .int .i64 x3) rfl (fun W9 hW => by obtain ⟨p0, p1, p2, p3⟩ := HCE.out W9 hW; clear hW; go_simp) (fun _ _ _ h => h) ?_
          simp only [Act.put, List.setIfInBounds_toArray, List.set_cons_zero, List.set_cons_succ]
          refine seqI_take (v := .int .i64 kn) rfl (fun W9 hW => by clear hW; go_simp) (fun _ _ _ h => h) ?_
          simp only [Act.put, List.setIfInBounds_toArray, List.set_cons_zero, List.set_cons_succ]
          refine seqI_call _ _ rfl (by go_simp) (HI0.out wd HBD.out) ?_
          rintro e w6 ⟨rfl, hb6⟩
          refine ⟨_, rfl, hb6, ?_⟩
          simp only [Act.put, List.setIfInBounds_toArray, List.set_cons_zero, List.set_cons_succ]
          refine seqI_call _ _ rfl (by go_simp) (wordsA_any w6) ?_
          rintro e w7 ⟨rfl, hw7⟩
          have hb7 : Below w6.heap.size w6 w7 := by rw [hw7]; exact ext_alloc (Below.refl _ _)
          have hbd7 := ext_trans hb6 hb7
          have kc : w7.cell? ⟨w6.heap.size, kn, none⟩ = some (.string ⟨kW.toArray⟩) := by
            have hbk : Blk w7 w6.heap.size (wordsA.map encS) 9 := by rw [hw7]; exact Blk.new _ _ _
            refine hbk.cell kn ?_
            rw [List.getElem?_map, HKW.out]
            rfl
          clear hw7
          refine ⟨_, rfl, hbd7, ?_⟩
          simp only [Act.put, List.setIfInBounds_toArray, List.set_cons_zero, List.set_cons_succ]
          refine seqI_do rfl (wp_valX (w' := w7) (v := .pointer (some ⟨w6.heap.size, kn, none⟩)) (by go_simp) ⟨hbd7, ?_⟩)
          simp only [Act.put, List.setIfInBounds_toArray, List.set_cons_zero, List.set_cons_succ]
          refine seqI_do rfl (wp_valX (w' := w7) (v := .string ⟨kW.toArray⟩) (by go_simp) ⟨hbd7, ?_⟩)
          simp only [Act.put, List.setIfInBounds_toArray, List.set_cons_zero, List.set_cons_succ]
          have hb8 : Below w7.heap.size w7 (w7.alloc (.cells #[.string ⟨A0.toArray⟩, .string ⟨f1.toArray⟩, .string ⟨f2.toArray⟩, .string ⟨kW.toArray⟩] 9)) := ext_alloc (Below.refl _ _)
          have hbd8 := ext_trans hbd7 hb8
          refine seqI_do rfl (wp_valX (bl_atx1 _ (fun _ => rfl) _ _ 23 25 27 33 ⟨A0.toArray⟩ ⟨f1.toArray⟩ ⟨f2.toArray⟩ ⟨kW.toArray⟩ rfl rfl rfl rfl rfl) ⟨hbd8, ?_⟩)
          simp only [Act.put, List.setIfInBounds_toArray, List.set_cons_zero, List.set_cons_succ]
          refine seqI_take (v := .slice (some ⟨w7.heap.size, 0, none⟩) 4 4) rfl (fun W9 hW => by clear hW; go_simp) (fun _ _ _ h => h) ?_
          simp only [Act.put, List.setIfInBounds_toArray, List.set_cons_zero, List.set_cons_succ]
          refine seqI_nil ?_
          have B8 : Hid (Blk (w7.alloc (.cells #[.string ⟨A0.toArray⟩, .string ⟨f1.toArray⟩, .string ⟨f2.toArray⟩, .string ⟨kW.toArray⟩] 9)) w7.heap.size [.string ⟨A0.toArray⟩, .string ⟨f1.toArray⟩, .string ⟨f2.toArray⟩, .string ⟨kW.toArray⟩] 9) := Blk.new _ _ _
          have X8 := Lib.hid (XD.out.below hbd8)
          have HB8 := Lib.hid (ext_trans HBD.out hbd8)
          have HL8 := Lib.hid (bld_keep HLD.out hbd8)
          have HQ8 : Hid (Below B w1 (w7.alloc (.cells #[.string ⟨A0.toArray⟩, .string ⟨f1.toArray⟩, .string ⟨f2.toArray⟩, .string ⟨kW.toArray⟩] 9))) := HQD.out.trans (hbd8.mono (Nat.le_of_lt (bld_lt HLD.out)))
          have O8 : Hid ((w7.alloc (.cells #[.string ⟨A0.toArray⟩, .string ⟨f1.toArray⟩, .string ⟨f2.toArray⟩, .string ⟨kW.toArray⟩] 9)).ownsRow w7.heap.size 9 1 (.slice (some ⟨w7.heap.size, 0, none⟩) 4 4) 4 [.string ⟨A0.toArray⟩, .string ⟨f1.toArray⟩, .string ⟨f2.toArray⟩, .string ⟨kW.toArray⟩]) := World.ownsRow_lit w7 #[.string ⟨A0.toArray⟩, .string ⟨f1.toArray⟩, .string ⟨f2.toArray⟩, .string ⟨kW.toArray⟩] 4 (Nat.le_refl _) (by unfold maxLen; omega) rfl
          have HBG : Hid (B < w7.heap.size) := Nat.lt_of_lt_of_le (bld_lt HLD.out) hbd7.size
          clear hb6 hb7 hb8 hbd7 hbd8 kc HCE XD HBD HLD HQD
          generalize (w7.alloc (.cells #[.string ⟨A0.toArray⟩, .string ⟨f1.toArray⟩, .string ⟨f2.toArray⟩, .string ⟨kW.toArray⟩] 9)) = w8 at B8 X8 HB8 HL8 HQ8 O8 ⊢
          generalize w7.heap.size = GB at B8 O8 HBG ⊢
          have c3 := X8.out.cell 3 rfl
          have c4 := X8.out.cell 4 rfl
          have c5 := X8.out.cell 5 rfl
          by_cases hx3 : x3 = 1
          case neg =>
            have hx3b : (x3 == 1) = false := beq_eq_false_iff_ne.2 hx3
            have HAE : Hid (AW = [A0, f1, f2, kW]) := by show _ = _; rw [HAW.out, if_neg hx3, List.append_nil]
            rw [HAE.out] at HAT hsp
            have HJ := Lib.hid (joinW [A0, f1, f2, kW] GB 4 w8 (fun j hj => by
              match j, hj with
              | 0, _ => exact B8.out.cell 0 rfl
              | 1, _ => exact B8.out.cell 1 rfl
              | 2, _ => exact B8.out.cell 2 rfl
              | 3, _ => exact B8.out.cell 3 rfl) B8.out.lt (by show (4 : Nat) ≤ 4; omega) (by omega) (by show (4 : Nat) ≤ 1000; omega))
            clear hx3 HAE HAW B8 O8
            generalize spaced [A0, f1, f2, kW] = SP at HAT hsp HJ
            as_aux_lemma =>
              go_wp2_with fail
              refine HJ.out.mono ?_
              rintro e w9 ⟨rfl, hb⟩
              have HB9 := Lib.hid (ext_trans HB8.out hb)
              have HL9 := Lib.hid (bld_keep HL8.out hb)
              have HQ9 : Hid (Below B w1 w9) := HQ8.out.trans (hb.mono (Nat.le_of_lt (bld_lt HL8.out)))
              clear hb HB8 HL8 HQ8 HJ X8
              obtain ⟨LT, hLT⟩ : ∃ LT, LT = SP ++ [10] := ⟨_, rfl⟩
              rw [← hLT] at HAT
              have HLT := Lib.hid hLT
              have hll : LT.length ≤ 247 := by rw [hLT, List.length_append]; simp only [List.length_cons, List.length_nil]; omega
              clear hLT
              as_aux_lemma =>
                go_wp2_with (refine wpList_val rfl (add_str _ _ _ (.tmp 50) (.const (.string ⟨#[10]⟩)) SP [10] rfl rfl rfl (by simp only [List.length_cons, List.length_nil]; omega)) ?_)
                rw [← HLT.out]
                refine (jbl_writeL B B (Lib.byteCells (actsT (l.take i))) LT _ HL9.out (by rw [cells_len]; omega) (Nat.le_of_lt (bld_lt HL9.out))).mono ?_
                rintro e w11 ⟨rfl, hb2, hbb⟩
                have HLX : Hid (Lib.IsBuilder 95 5 B B (Lib.byteCells (actsT (l.take (i + 1)))) w11) := by
                  show Lib.IsBuilder _ _ _ _ _ _
                  rw [HAT.out, ← cells_app]
                  exact Or.inr hb2
                have HQX := Lib.hid (HQ9.out.trans hbb)
                clear hb2 hbb HL9 HQ9 HB9 HLT HAT
                as_aux_lemma =>
                  go_wp2_with fail
                  go_roundw
                  case rel => exact ⟨i + 1, by omega, by go_num, HLX.out, HQX.out⟩
                  case measure => simp [intOf]; omega
          subst hx3
          obtain ⟨A4, hA4⟩ : ∃ A, A = Lib.itoa x4 := ⟨_, rfl⟩
          have hx4 := HLF.out rfl
          have HI4 : Hid (∀ W, Below w.heap.size w W → Calls Tryz.prog 40 #[.int .i64 x4] W fun e w' => e = .returned (.string ⟨A4.toArray⟩) ∧ Below W.heap.size W w') := fun W hW => by rw [hA4]; exact HIT.out x4 W (by omega) (by omega) hW
          obtain ⟨fw, hfw⟩ : ∃ f, f = frmW f5 := ⟨_, rfl⟩
          have HAE : Hid (AW = [A0, f1, f2, kW, A4, fw]) := by show _ = _; rw [HAW.out, if_pos rfl, hA4, hfw]; rfl
          rw [HAE.out] at HAT hsp
          have HFW := Lib.hid hfw
          clear hA4 hfw hx4 HAW HAE B8 HLF
          by_cases hf5 : f5 = []
          · have HFE : Hid (fw = [45]) := by show _ = _; rw [HFW.out]; unfold frmW; rw [if_pos hf5]
            have hfb : (f5 == []) = true := by rw [hf5]; rfl
            have HFA : Hid ((#[45] : Array UInt8) = fw.toArray) := by show _ = _; rw [HFE.out]
            subst hf5
            clear HFW hfb
            as_aux_lemma =>
              go_upto_region 13 with (fail)
              rw [HFA.out]
              clear HFA HFE
              as_aux_lemma =>
                go_wp2_with fail
                refine (HI4.out _ HB8.out).mono ?_
                rintro e w9 ⟨rfl, hb⟩
                have HB9 := Lib.hid (ext_trans HB8.out hb)
                have HL9 := Lib.hid (bld_keep HL8.out hb)
                have HQ9 : Hid (Below B w1 w9) := HQ8.out.trans (hb.mono (Nat.le_of_lt (bld_lt HL8.out)))
                have O9 := Lib.hid (own_keep O8.out hb)
                have hGB : GB ≤ w9.heap.size := Nat.le_trans (Nat.le_of_lt (O8.out.lt GB rfl).2) hb.size
                have hBG : B ≤ GB := Nat.le_of_lt HBG.out
                clear hb HB8 HL8 HQ8 O8 X8 c3 c4 c5
                obtain ⟨wn, hwn⟩ : ∃ w', w' = (w9.alloc (.cells #[.string ⟨A4.toArray⟩, .string ⟨fw.toArray⟩] 9)) := ⟨_, rfl⟩
                have hbn : Below w9.heap.size w9 wn := by rw [hwn]; exact ext_alloc (Below.refl _ _)
                have HZN : Hid (Blk wn w9.heap.size [.string ⟨A4.toArray⟩, .string ⟨fw.toArray⟩] 9) := by rw [hwn]; exact Blk.new _ _ _
                have HNW : Hid (∀ j u, ([.string ⟨A4.toArray⟩, .string ⟨fw.toArray⟩] : List Value)[j]? = some u → wn.cell? ((⟨w9.heap.size, 0, none⟩ : Addr).add j) = some u) := fun j u hj => by
                  rw [show (⟨w9.heap.size, 0, none⟩ : Addr).add j = ⟨w9.heap.size, j, none⟩ by cases j <;> simp [Addr.add]]
                  exact HZN.out.cell j hj
                have HON := Lib.hid (own_keep O9.out hbn)
                have HBN := Lib.hid (ext_trans HB9.out hbn)
                have HLN := Lib.hid (bld_keep HL9.out hbn)
                have HQN : Hid (Below B w1 wn) := HQ9.out.trans (hbn.mono (Nat.le_of_lt (bld_lt HL9.out)))
                have HWN := Lib.hid hwn
                have hbw : GB ≤ wn.heap.size := Nat.le_trans hGB hbn.size
                clear hbn hwn HB9 HL9 HQ9 O9
                as_aux_lemma =>
                  go_upto_region 14 with (first | ((refine wpList_val rfl (bl_atx2 _ (fun _ => rfl) _ _ 45 46 ⟨A4.toArray⟩ ⟨fw.toArray⟩ rfl rfl rfl) ?_)) | (at_builtin; rw [← HWN.out]; refine wpList_append_own _ rfl (.tmp 42) (.tmp 47) 82 rfl GB 9 is0 (.string ⟨#[]⟩) 1 16 Tryz.underlying82 his0 hzs0 hzs1 hzs2 rfl (by decide) _ 4 [.string ⟨A0.toArray⟩, .string ⟨f1.toArray⟩, .string ⟨f2.toArray⟩, .string ⟨kW.toArray⟩] rfl HON.out ⟨w9.heap.size, 0, none⟩ 2 2 [.string ⟨A4.toArray⟩, .string ⟨fw.toArray⟩] rfl rfl HNW.out (by intro u hu; simp at hu; rcases hu with rfl | rfl <;> rfl) (by unfold maxLen; omega) (by omega) hbw ?_; intro vn wx hon hgn _))
                  have hsh := own_shape hon
                  obtain ⟨va, vc, rfl⟩ := hsh
                  obtain ⟨g6, rfl, hg60, hg61⟩ := own_pos hon (by decide)
                  have hgc : 6 ≤ vc := by
                    rcases hon.2 with ⟨e, _⟩ | ⟨g', c', cu, e, _, _, h1, h3, _⟩
                    · cases e
                    · injection e with _ _ e3
                      subst e3
                      exact h1
                  have HJ := Lib.hid (joinW [A0, f1, f2, kW, A4, fw] g6 vc wx (fun j hj => by
                    have h9 := hon.cellAt j (by simpa using hj)
                    rw [h9]
                    match j, hj with
                    | 0, _ => rfl
                    | 1, _ => rfl
                    | 2, _ => rfl
                    | 3, _ => rfl
                    | 4, _ => rfl
                    | 5, _ => rfl) hg61 hgc (by omega) (by show (6 : Nat) ≤ 1000; omega))
                  have hgB : ∀ b, (Value.slice (some ⟨GB, 0, none⟩) 4 4).ownBlock = some b → GB ≤ b := fun b hb => (HON.out.lt b hb).1
                  have HB8 : Hid (Below w.heap.size w wx) := HBN.out.grown hgn HBN.out.size (fun b hb => by have := hgB b hb; omega)
                  have HQ8 : Hid (Below B w1 wx) := HQN.out.grown hgn (Nat.le_of_lt (bld_lt HLN.out)) (fun b hb => by have := hgB b hb; omega)
                  have HL8 : Hid (Lib.IsBuilder 95 5 B B (Lib.byteCells (actsT (l.take i))) wx) := bld_gb HLN.out HON.out (by decide) (by have := HBG.out; show some GB ≠ some B; simp; omega) hgn
                  clear hon hgn HON HNW HZN HBN HLN HQN HWN hgB hg60 hg61 hgc hGB hbw
                  generalize spaced [A0, f1, f2, kW, A4, fw] = SP at HAT hsp HJ
                  as_aux_lemma =>
                    go_wp2_with fail
                    refine HJ.out.mono ?_
                    rintro e w9 ⟨rfl, hb⟩
                    have HB9 := Lib.hid (ext_trans HB8.out hb)
                    have HL9 := Lib.hid (bld_keep HL8.out hb)
                    have HQ9 : Hid (Below B w1 w9) := HQ8.out.trans (hb.mono (Nat.le_of_lt (bld_lt HL8.out)))
                    clear hb HB8 HL8 HQ8 HJ
                    obtain ⟨LT, hLT⟩ : ∃ LT, LT = SP ++ [10] := ⟨_, rfl⟩
                    rw [← hLT] at HAT
                    have HLT := Lib.hid hLT
                    have hll : LT.length ≤ 247 := by rw [hLT, List.length_append]; simp only [List.length_cons, List.length_nil]; omega
                    clear hLT
                    as_aux_lemma =>
                      go_wp2_with (refine wpList_val rfl (add_str _ _ _ (.tmp 50) (.const (.string ⟨#[10]⟩)) SP [10] rfl rfl rfl (by simp only [List.length_cons, List.length_nil]; omega)) ?_)
                      rw [← HLT.out]
                      refine (jbl_writeL B B (Lib.byteCells (actsT (l.take i))) LT _ HL9.out (by rw [cells_len]; omega) (Nat.le_of_lt (bld_lt HL9.out))).mono ?_
                      rintro e w11 ⟨rfl, hb2, hbb⟩
                      have HLX : Hid (Lib.IsBuilder 95 5 B B (Lib.byteCells (actsT (l.take (i + 1)))) w11) := by
                        show Lib.IsBuilder _ _ _ _ _ _
                        rw [HAT.out, ← cells_app]
                        exact Or.inr hb2
                      have HQX := Lib.hid (HQ9.out.trans hbb)
                      clear hb2 hbb HL9 HQ9 HB9 HLT HAT
                      as_aux_lemma =>
                        go_wp2_with fail
                        go_roundw
                        case rel => exact ⟨i + 1, by omega, by go_num, HLX.out, HQX.out⟩
                        case measure => simp [intOf]; omega
          · have hfb : (f5 == []) = false := beq_eq_false_iff_ne.2 hf5
            have HFE : Hid (fw = f5) := by show _ = _; rw [HFW.out]; unfold frmW; rw [if_neg hf5]
            have hfe := HFE.out
            subst hfe
            clear HFW hf5
            as_aux_lemma =>
              go_upto_region 13 with (fail)
              clear hfb HFE
              as_aux_lemma =>
                go_wp2_with fail
                refine (HI4.out _ HB8.out).mono ?_
                rintro e w9 ⟨rfl, hb⟩
                have HB9 := Lib.hid (ext_trans HB8.out hb)
                have HL9 := Lib.hid (bld_keep HL8.out hb)
                have HQ9 : Hid (Below B w1 w9) := HQ8.out.trans (hb.mono (Nat.le_of_lt (bld_lt HL8.out)))
                have O9 := Lib.hid (own_keep O8.out hb)
                have hGB : GB ≤ w9.heap.size := Nat.le_trans (Nat.le_of_lt (O8.out.lt GB rfl).2) hb.size
                have hBG : B ≤ GB := Nat.le_of_lt HBG.out
                clear hb HB8 HL8 HQ8 O8 X8 c3 c4 c5
                obtain ⟨wn, hwn⟩ : ∃ w', w' = (w9.alloc (.cells #[.string ⟨A4.toArray⟩, .string ⟨fw.toArray⟩] 9)) := ⟨_, rfl⟩
                have hbn : Below w9.heap.size w9 wn := by rw [hwn]; exact ext_alloc (Below.refl _ _)
                have HZN : Hid (Blk wn w9.heap.size [.string ⟨A4.toArray⟩, .string ⟨fw.toArray⟩] 9) := by rw [hwn]; exact Blk.new _ _ _
                have HNW : Hid (∀ j u, ([.string ⟨A4.toArray⟩, .string ⟨fw.toArray⟩] : List Value)[j]? = some u → wn.cell? ((⟨w9.heap.size, 0, none⟩ : Addr).add j) = some u) := fun j u hj => by
                  rw [show (⟨w9.heap.size, 0, none⟩ : Addr).add j = ⟨w9.heap.size, j, none⟩ by cases j <;> simp [Addr.add]]
                  exact HZN.out.cell j hj
                have HON := Lib.hid (own_keep O9.out hbn)
                have HBN := Lib.hid (ext_trans HB9.out hbn)
                have HLN := Lib.hid (bld_keep HL9.out hbn)
                have HQN : Hid (Below B w1 wn) := HQ9.out.trans (hbn.mono (Nat.le_of_lt (bld_lt HL9.out)))
                have HWN := Lib.hid hwn
                have hbw : GB ≤ wn.heap.size := Nat.le_trans hGB hbn.size
                clear hbn hwn HB9 HL9 HQ9 O9
                as_aux_lemma =>
                  go_upto_region 14 with (first | ((refine wpList_val rfl (bl_atx2 _ (fun _ => rfl) _ _ 45 46 ⟨A4.toArray⟩ ⟨fw.toArray⟩ rfl rfl rfl) ?_)) | (at_builtin; rw [← HWN.out]; refine wpList_append_own _ rfl (.tmp 42) (.tmp 47) 82 rfl GB 9 is0 (.string ⟨#[]⟩) 1 16 Tryz.underlying82 his0 hzs0 hzs1 hzs2 rfl (by decide) _ 4 [.string ⟨A0.toArray⟩, .string ⟨f1.toArray⟩, .string ⟨f2.toArray⟩, .string ⟨kW.toArray⟩] rfl HON.out ⟨w9.heap.size, 0, none⟩ 2 2 [.string ⟨A4.toArray⟩, .string ⟨fw.toArray⟩] rfl rfl HNW.out (by intro u hu; simp at hu; rcases hu with rfl | rfl <;> rfl) (by unfold maxLen; omega) (by omega) hbw ?_; intro vn wx hon hgn _))
                  have hsh := own_shape hon
                  obtain ⟨va, vc, rfl⟩ := hsh
                  obtain ⟨g6, rfl, hg60, hg61⟩ := own_pos hon (by decide)
                  have hgc : 6 ≤ vc := by
                    rcases hon.2 with ⟨e, _⟩ | ⟨g', c', cu, e, _, _, h1, h3, _⟩
                    · cases e
                    · injection e with _ _ e3
                      subst e3
                      exact h1
                  have HJ := Lib.hid (joinW [A0, f1, f2, kW, A4, fw] g6 vc wx (fun j hj => by
                    have h9 := hon.cellAt j (by simpa using hj)
                    rw [h9]
                    match j, hj with
                    | 0, _ => rfl
                    | 1, _ => rfl
                    | 2, _ => rfl
                    | 3, _ => rfl
                    | 4, _ => rfl
                    | 5, _ => rfl) hg61 hgc (by omega) (by show (6 : Nat) ≤ 1000; omega))
                  have hgB : ∀ b, (Value.slice (some ⟨GB, 0, none⟩) 4 4).ownBlock = some b → GB ≤ b := fun b hb => (HON.out.lt b hb).1
                  have HB8 : Hid (Below w.heap.size w wx) := HBN.out.grown hgn HBN.out.size (fun b hb => by have := hgB b hb; omega)
                  have HQ8 : Hid (Below B w1 wx) := HQN.out.grown hgn (Nat.le_of_lt (bld_lt HLN.out)) (fun b hb => by have := hgB b hb; omega)
                  have HL8 : Hid (Lib.IsBuilder 95 5 B B (Lib.byteCells (actsT (l.take i))) wx) := bld_gb HLN.out HON.out (by decide) (by have := HBG.out; show some GB ≠ some B; simp; omega) hgn
                  clear hon hgn HON HNW HZN HBN HLN HQN HWN hgB hg60 hg61 hgc hGB hbw
                  generalize spaced [A0, f1, f2, kW, A4, fw] = SP at HAT hsp HJ
                  as_aux_lemma =>
                    go_wp2_with fail
                    refine HJ.out.mono ?_
                    rintro e w9 ⟨rfl, hb⟩
                    have HB9 := Lib.hid (ext_trans HB8.out hb)
                    have HL9 := Lib.hid (bld_keep HL8.out hb)
                    have HQ9 : Hid (Below B w1 w9) := HQ8.out.trans (hb.mono (Nat.le_of_lt (bld_lt HL8.out)))
                    clear hb HB8 HL8 HQ8 HJ
                    obtain ⟨LT, hLT⟩ : ∃ LT, LT = SP ++ [10] := ⟨_, rfl⟩
                    rw [← hLT] at HAT
                    have HLT := Lib.hid hLT
                    have hll : LT.length ≤ 247 := by rw [hLT, List.length_append]; simp only [List.length_cons, List.length_nil]; omega
                    clear hLT
                    as_aux_lemma =>
                      go_wp2_with (refine wpList_val rfl (add_str _ _ _ (.tmp 50) (.const (.string ⟨#[10]⟩)) SP [10] rfl rfl rfl (by simp only [List.length_cons, List.length_nil]; omega)) ?_)
                      rw [← HLT.out]
                      refine (jbl_writeL B B (Lib.byteCells (actsT (l.take i))) LT _ HL9.out (by rw [cells_len]; omega) (Nat.le_of_lt (bld_lt HL9.out))).mono ?_
                      rintro e w11 ⟨rfl, hb2, hbb⟩
                      have HLX : Hid (Lib.IsBuilder 95 5 B B (Lib.byteCells (actsT (l.take (i + 1)))) w11) := by
                        show Lib.IsBuilder _ _ _ _ _ _
                        rw [HAT.out, ← cells_app]
                        exact Or.inr hb2
                      have HQX := Lib.hid (HQ9.out.trans hbb)
                      clear hb2 hbb HL9 HQ9 HB9 HLT HAT
                      as_aux_lemma =>
                        go_wp2_with fail
                        go_roundw
                        case rel => exact ⟨i + 1, by omega, by go_num, HLX.out, HQX.out⟩
                        case measure => simp [intOf]; omega
end Go.Proofs.YtamoclofloijpaaGreatDoor

set_option linter.unusedVariables false
set_option linter.unusedSimpArgs false
namespace Go.Proofs.YtamoclofloijpaaGreatDoor
open Go.RowKit

def numOk15 (s : List UInt8) : Bool := rawB s 15 && canonB s
def NumPost15 (s : List UInt8) (w : World) (e : Ending) (w' : World) : Prop := e = .returned (.tuple #[.int .i64 (if numOk15 s = true then numZ s else 0), .bool (numOk15 s)]) ∧ Below w.heap.size w w'
theorem dec_bound15 {s : List UInt8} (h : rawB s 15 = true) : decT 0 (unsign s) < 1000000000000000 := by
  obtain ⟨h1, h2, h3⟩ := raw_parts h
  have h4 := dec_lt (unsign s) 0 h3
  have h5 : (10 : Nat) ^ (unsign s).length ≤ 10 ^ 15 := Nat.pow_le_pow_right (by omega) (by omega)
  omega
theorem numZ_raw15 {s : List UInt8} (h : rawB s 15 = true) : Lib.atoi s = some (numZ s) ∧ -1000000000000000 ≤ numZ s ∧ numZ s ≤ 1000000000000000 := by
  have h1 := atoi_raw h
  have h2 := dec_bound15 h
  have e : numZ s = if signB s = true then -(decT 0 (unsign s) : Int) else (decT 0 (unsign s) : Int) := by unfold numZ; rw [h1]; rfl
  rw [e]
  refine ⟨h1, ?_⟩
  split <;> omega
set_option maxRecDepth 100000 in
set_option maxHeartbeats 4000000 in
theorem number15_any (s : List UInt8) (w : World) (hs : s.length ≤ 1000000) : Calls Tryz.prog 94 #[.string ⟨s.toArray⟩, .int .i64 15] w (NumPost15 s w) := by
  have HOK : Hid (∀ z b W, (if numOk15 s = true then numZ s else 0) = z → numOk15 s = b → Below w.heap.size w W → NumPost15 s w (.returned (.tuple #[.int .i64 z, .bool b])) W) := fun z b W h1 h2 h3 => by unfold NumPost15; rw [h1, h2]; exact ⟨rfl, h3⟩
  have hul := unsign_len s
  have HCUT := Lib.hid (cutSign s w)
  have HTR := Lib.hid (trim_digits ⟨(unsign s).toArray⟩ w (by show (unsign s).toArray.size ≤ _; simp; omega))
  have HNK : Hid (numOk15 s = ((decide (1 ≤ ((unsign s).length : Int)) && (decide (((unsign s).length : Int) ≤ 15) && (Lib.trimS (unsign s) digitSet).isEmpty)) && (!((unsign s).headD 0 == 48) || (decide (unsign s = [48]) && !signB s)))) := rfl
  have HAT : Hid (rawB s 15 = true → ∀ W, Calls Tryz.prog 153 #[.string ⟨s.toArray⟩] W fun e w' => e = .returned (.tuple #[.int .i64 (numZ s), .nilIface]) ∧ Below W.heap.size W w') := fun h W => by
    obtain ⟨h1, h2, _⟩ := raw_parts h
    have h3 : s.length ≤ 18 := by
      rcases sign_cases s with ⟨_, q⟩ | ⟨_, q, _⟩ | q
      · rw [q, List.length_cons]; omega
      · rw [← q]; omega
      · rw [q]; decide
    exact atoi_l s (numZ s) h3 (numZ_raw15 h).1 W
  have HRW : Hid (rawB s 15 = (decide (1 ≤ ((unsign s).length : Int)) && (decide (((unsign s).length : Int) ≤ 15) && (Lib.trimS (unsign s) digitSet).isEmpty))) := rfl
  have HTR2 : Hid (Calls Tryz.prog 65 #[.string ⟨(unsign s).toArray⟩, .string ⟨#[48, 49, 50, 51, 52, 53, 54, 55, 56, 57]⟩] w fun e w' => e = .returned (.string ⟨(Lib.trimS (unsign s) digitSet).toArray⟩) ∧ Below w.heap.size w w') := HTR.out
  clear HTR
  generalize NumPost15 s w = PP at HOK ⊢
  generalize numOk15 s = NK at HOK HNK
  generalize rawB s 15 = RW at HAT HRW
  generalize numZ s = Z at HOK HAT
  generalize signB s = g at HCUT HNK
  generalize Lib.trimS (unsign s) digitSet = tr at HNK HRW HTR2
  generalize unsign s = d at hul HCUT HNK HRW HTR2
  cases d with
  | nil =>
    have HF : Hid (NK = false) := by show _ = _; rw [HNK.out]; rfl
    clear HNK HAT HRW HTR2
    go_enter Tryz.func94, Tryz.ntmps94
    as_aux_lemma =>
      go_wp2_with fail
      refine HCUT.out.mono ?_
      rintro e w1 ⟨rfl, hw1⟩
      subst hw1
      as_aux_lemma =>
        go_wp2_with fail
        first | exact HOK.out 0 false w (by rw [HF.out]; rfl) HF.out (Below.refl _ _) | (go_ret2; exact HOK.out 0 false w (by rw [HF.out]; rfl) HF.out (Below.refl _ _))
  | cons x m =>
    simp only [List.length_cons] at hul
    by_cases hl : ((x :: m).length : Int) ≤ 15
    case neg =>
      have HF : Hid (NK = false) := by show _ = _; rw [HNK.out, decide_eq_false hl]; simp
      have hl2 : (15 : Int) < (m.length : Int) + 1 := by simp only [List.length_cons] at hl; omega
      clear HNK HAT HRW HTR2 hl
      go_enter Tryz.func94, Tryz.ntmps94
      as_aux_lemma =>
        go_wp2_with fail
        refine HCUT.out.mono ?_
        rintro e w1 ⟨rfl, hw1⟩
        subst hw1
        as_aux_lemma =>
          go_wp2_with fail
          first | exact HOK.out 0 false w (by rw [HF.out]; rfl) HF.out (Below.refl _ _) | (go_ret2; exact HOK.out 0 false w (by rw [HF.out]; rfl) HF.out (Below.refl _ _))
    have hl2 : ¬ (15 : Int) < (m.length : Int) + 1 := by simp only [List.length_cons] at hl; omega
    have h1 : (1 : Int) ≤ (((x :: m).length : Nat) : Int) := by simp only [List.length_cons]; omega
    rw [decide_eq_true hl, decide_eq_true h1] at HNK HRW
    cases tr with
    | cons y r =>
      have HF : Hid (NK = false) := by show _ = _; rw [HNK.out]; rfl
      clear HNK HAT HRW hl h1
      go_enter Tryz.func94, Tryz.ntmps94
      as_aux_lemma =>
        go_wp2_with fail
        refine HCUT.out.mono ?_
        rintro e w1 ⟨rfl, hw1⟩
        subst hw1
        as_aux_lemma =>
          go_wp2_with fail
          refine HTR2.out.mono ?_
          rintro e w2 ⟨rfl, hb2⟩
          have HB2 := Lib.hid hb2
          clear hb2
          as_aux_lemma =>
            go_wp2_with fail
            first | exact HOK.out 0 false w2 (by rw [HF.out]; rfl) HF.out HB2.out | (go_ret2; exact HOK.out 0 false w2 (by rw [HF.out]; rfl) HF.out HB2.out)
    | nil =>
      have HAT2 := Lib.hid (HAT.out HRW.out)
      have HNK2 : Hid (NK = (!(x == 48) || (decide (x :: m = [48]) && !g))) := HNK.out
      clear HNK HAT HRW hl h1
      by_cases hx : x = 48
      · subst hx
        cases m with
        | cons y m2 =>
          have HF : Hid (NK = false) := by show _ = _; rw [HNK2.out]; simp
          clear HNK2 HAT2
          go_enter Tryz.func94, Tryz.ntmps94
          as_aux_lemma =>
            go_wp2_with fail
            refine HCUT.out.mono ?_
            rintro e w1 ⟨rfl, hw1⟩
            subst hw1
            as_aux_lemma =>
              go_wp2_with fail
              refine HTR2.out.mono ?_
              rintro e w2 ⟨rfl, hb2⟩
              have HB2 := Lib.hid hb2
              clear hb2
              as_aux_lemma =>
                go_wp2_with fail
                first | exact HOK.out 0 false w2 (by rw [HF.out]; rfl) HF.out HB2.out | (go_ret2; exact HOK.out 0 false w2 (by rw [HF.out]; rfl) HF.out HB2.out)
        | nil =>
          cases g with
          | true =>
            have HF : Hid (NK = false) := by show _ = _; rw [HNK2.out]; rfl
            clear HNK2 HAT2
            go_enter Tryz.func94, Tryz.ntmps94
            as_aux_lemma =>
              go_wp2_with fail
              refine HCUT.out.mono ?_
              rintro e w1 ⟨rfl, hw1⟩
              subst hw1
              as_aux_lemma =>
                go_wp2_with fail
                refine HTR2.out.mono ?_
                rintro e w2 ⟨rfl, hb2⟩
                have HB2 := Lib.hid hb2
                clear hb2
                as_aux_lemma =>
                  go_wp2_with fail
                  first | exact HOK.out 0 false w2 (by rw [HF.out]; rfl) HF.out HB2.out | (go_ret2; exact HOK.out 0 false w2 (by rw [HF.out]; rfl) HF.out HB2.out)
          | false =>
            have HF : Hid (NK = true) := by show _ = _; rw [HNK2.out]; rfl
            clear HNK2
            go_enter Tryz.func94, Tryz.ntmps94
            as_aux_lemma =>
              go_wp2_with fail
              refine HCUT.out.mono ?_
              rintro e w1 ⟨rfl, hw1⟩
              subst hw1
              as_aux_lemma =>
                go_wp2_with fail
                refine HTR2.out.mono ?_
                rintro e w2 ⟨rfl, hb2⟩
                have HB2 := Lib.hid hb2
                clear hb2
                as_aux_lemma =>
                  go_wp2_with fail
                  refine (HAT2.out _).mono ?_
                  rintro e w3 ⟨rfl, hb3⟩
                  have HB3 := Lib.hid (ext_trans HB2.out hb3)
                  clear hb3 HB2
                  as_aux_lemma =>
                    go_wp2_with fail
                    go_quiet (fail)
                    go_wp2_with fail
                    go_simp
                    exact HOK.out Z true _ (by rw [HF.out]; rfl) HF.out (ext_drewN HB3.out)
      · have hxb : (x == 48) = false := beq_eq_false_iff_ne.2 hx
        have hxn : ¬ ((x.toNat : Int) = 48) := fun h => hx (UInt8.toNat_inj.1 (by have : x.toNat = 48 := by omega
                                                                                  exact this))
        have HF : Hid (NK = true) := by show _ = _; rw [HNK2.out, hxb]; rfl
        clear HNK2 hx hxb
        have hx0 : ((((⟨(x :: m).toArray⟩ : ByteArray)[0]'(by show 0 < (x :: m).toArray.size; simp)).toNat : Int) == 48) = false := beq_eq_false_iff_ne.2 hxn
        go_enter Tryz.func94, Tryz.ntmps94
        as_aux_lemma =>
          go_wp2_with fail
          refine HCUT.out.mono ?_
          rintro e w1 ⟨rfl, hw1⟩
          subst hw1
          as_aux_lemma =>
            go_wp2_with fail
            refine HTR2.out.mono ?_
            rintro e w2 ⟨rfl, hb2⟩
            have HB2 := Lib.hid hb2
            clear hb2
            as_aux_lemma =>
              go_wp2_with fail
              refine (HAT2.out _).mono ?_
              rintro e w3 ⟨rfl, hb3⟩
              have HB3 := Lib.hid (ext_trans HB2.out hb3)
              clear hb3 HB2
              as_aux_lemma =>
                go_wp2_with fail
                go_quiet (fail)
                go_wp2_with fail
                go_simp
                exact HOK.out Z true _ (by rw [HF.out]; rfl) HF.out (ext_drewN HB3.out)
/-- What Int answers. -/
theorem decT_back : ∀ (u : Nat), decT 0 (Lib.decDigits u) = u ∧ digs (Lib.decDigits u) = true ∧ (∀ k, 1 ≤ k → u < 10 ^ k → (Lib.decDigits u).length ≤ k) ∧ 1 ≤ (Lib.decDigits u).length := by
  intro u
  induction u using Nat.strongRecOn with
  | _ u ih =>
    by_cases h : u < 10
    · rw [Lib.decDigits_one h]
      have : u = 0 ∨ u = 1 ∨ u = 2 ∨ u = 3 ∨ u = 4 ∨ u = 5 ∨ u = 6 ∨ u = 7 ∨ u = 8 ∨ u = 9 := by omega
      refine ⟨?_, ?_, fun k hk _ => hk, by simp⟩
      · rcases this with rfl | rfl | rfl | rfl | rfl | rfl | rfl | rfl | rfl | rfl <;> rfl
      · rcases this with rfl | rfl | rfl | rfl | rfl | rfl | rfl | rfl | rfl | rfl <;> rfl
    · have e : Lib.decDigits u = Lib.decDigits (u / 10) ++ [UInt8.ofNat (48 + u % 10)] := by rw [Lib.decDigits, dif_neg h]
      obtain ⟨h1, h2, h3, h4⟩ := ih (u / 10) (by omega)
      have hb : (UInt8.ofNat (48 + u % 10)).toNat = 48 + u % 10 := by simp; omega
      rw [e]
      refine ⟨?_, ?_, fun k hk hu => ?_, by simp⟩
      · rw [decT_snoc, h1, hb]; omega
      · rw [digs_app, h2]
        simp only [digs, List.all_cons, List.all_nil, hb, Bool.true_and, Bool.and_true, Bool.and_eq_true, decide_eq_true_eq]
        omega
      · rw [List.length_append, List.length_singleton]
        obtain ⟨k', rfl⟩ : ∃ k', k = k' + 1 := ⟨k - 1, by omega⟩
        rw [Nat.pow_succ] at hu
        by_cases hk' : k' = 0
        · subst hk'; simp at hu; omega
        · have := h3 k' (by omega) (by omega); omega
theorem num_itoa {n : Int} (h0 : 0 ≤ n) (h1 : n < 1000000000000000) : numOk15 (Lib.itoa n) = true ∧ numZ (Lib.itoa n) = n := by
  obtain ⟨u, rfl⟩ := Int.eq_ofNat_of_zero_le h0
  rw [Lib.itoa_nonneg]
  obtain ⟨a1, a2, a3, a4⟩ := decT_back u
  have hl := a3 15 (by omega) (by omega)
  have hs : signB (Lib.decDigits u) = false ∧ unsign (Lib.decDigits u) = Lib.decDigits u := by
    rcases sign_cases (Lib.decDigits u) with ⟨q1, q2⟩ | ⟨q1, q2, -⟩ | q
    · have := digs_mem a2 (b := 45) (by rw [q2]; simp)
      exact absurd this.1 (by decide)
    · exact ⟨q1, q2⟩
    · rw [q] at a4; simp at a4
  have hr : rawB (Lib.decDigits u) 15 = true := by
    unfold rawB digitsB
    rw [hs.2, digs_in, a2]
    simp only [Bool.and_eq_true, decide_eq_true_eq]
    exact ⟨by omega, by omega, trivial⟩
  have hc : canonB (Lib.decDigits u) = true := by
    unfold canonB
    rw [hs.1, hs.2]
    by_cases hu : u = 0
    · subst hu
      rw [show Lib.decDigits 0 = [48] from Lib.decDigits_one (by omega)]
      decide
    · have := decDigits_head u (by omega)
      have h9 : ((Lib.decDigits u).headD 0 == 48) = false := beq_eq_false_iff_ne.2 this
      rw [h9]; rfl
  refine ⟨by unfold numOk15; rw [hr, hc]; rfl, ?_⟩
  unfold numZ
  rw [atoi_raw hr, hs.1, hs.2, a1]
  rfl
theorem num15_itoa {n : Int} (h0 : 0 ≤ n) (h1 : n < 1000000000000000) (w : World) : Calls Tryz.prog 94 #[.string ⟨(Lib.itoa n).toArray⟩, .int .i64 15] w fun e w' => e = .returned (.tuple #[.int .i64 n, .bool true]) ∧ Below w.heap.size w w' := by
  have h := num_itoa h0 h1
  refine (number15_any (Lib.itoa n) w (by have := Lib.itoa_length_le n (by omega) (by omega); omega)).mono fun e w' q => ⟨?_, q.2⟩
  rw [q.1, h.1, h.2, if_pos rfl]
theorem itoa_bytes {n : Int} (h0 : 0 ≤ n) {b : UInt8} (hb : b ∈ Lib.itoa n) : 48 ≤ b.toNat ∧ b.toNat ≤ 57 := by
  obtain ⟨u, rfl⟩ := Int.eq_ofNat_of_zero_le h0
  rw [Lib.itoa_nonneg] at hb
  exact digs_mem (decT_back u).2.1 hb
end Go.Proofs.YtamoclofloijpaaGreatDoor

set_option linter.unusedVariables false
set_option linter.unusedSimpArgs false
namespace Go.Proofs.YtamoclofloijpaaGreatDoor
open Go.RowKit Go.Sort Go.Lib

theorem wordsA_few {k : Int} (h1 : 1 ≤ k) (h5 : k ≤ 5) : (∀ m, m < (k - 1).toNat → wordsA.getD m [] ≠ kindW k) ∧ wordsA.getD (k - 1).toNat [] = kindW k := by
  have : k = 1 ∨ k = 2 ∨ k = 3 ∨ k = 4 ∨ k = 5 := by omega
  rcases this with rfl | rfl | rfl | rfl | rfl
  all_goals decide
theorem idxW_any (w : World) (g : Nat) (k : Int) (h1 : 1 ≤ k) (h5 : k ≤ 5) (hc : ∀ j, j < 5 → w.cell? ⟨g, j, none⟩ = some (.string ⟨(wordsA.getD j []).toArray⟩)) :
    Calls Tryz.prog 95 #[.slice (some ⟨g, 0, none⟩) 5 5, .string ⟨(kindW k).toArray⟩] w fun e w' => e = .returned (.int .i64 (k - 1)) ∧ w = w' := by
  have HC := Lib.hid hc
  obtain ⟨hw1, hw2⟩ := wordsA_few h1 h5
  obtain ⟨kn, hkn⟩ : ∃ kn : Nat, kn = (k - 1).toNat := ⟨_, rfl⟩
  rw [← hkn] at hw1 hw2
  have hkn5 : kn < 5 := by omega
  have HKN : Hid (((kn : Nat) : Int) = k - 1) := by show _ = _; omega
  have HW := Lib.hid hw1
  have HW2 := Lib.hid hw2
  generalize kindW k = kW at HW HW2 ⊢
  clear hw1 hw2 hc hkn
  go_enter Tryz.func95, Tryz.ntmps95
  go_wp2_with fail
  go_loopw [8] (fun it wr => ∃ m : Nat, m ≤ kn ∧ it = .int .i64 m ∧ Hid (w = wr)) (fun it _ => 5 - (intOf it).toNat)
  case atStart => exact ⟨0, Nat.zero_le _, rfl, rfl⟩
  case round =>
    obtain ⟨m, hm, rfl, HE⟩ := hrel
    obtain rfl : w = wr := HE.out
    have hm5 : (m : Int) < 5 := by omega
    have hm0 : ¬ ((m : Int) < 0) := by omega
    have c0 := HC.out m (by omega)
    by_cases hlt : m < kn
    · have HN := Lib.hid (HW.out m hlt)
      generalize wordsA.getD m [] = x at c0 HN
      have hne : (kW == x) = false := beq_eq_false_iff_ne.2 (Ne.symm HN.out)
      have hne2 : (x == kW) = false := beq_eq_false_iff_ne.2 HN.out
      go_wp2_with fail
      go_roundw
      case rel => exact ⟨m + 1, by omega, by go_num, (by first | exact rfl | exact True.intro)⟩
      case measure => simp [intOf]; omega
    · obtain rfl : m = kn := by omega
      rw [HW2.out] at c0
      go_wp2_with fail
      go_ret
      exact ⟨by rw [← HKN.out]; rfl, rfl⟩
/-- A word: it is not empty, no space and no line's end stands in it. -/
def WordOk (x : List UInt8) : Prop := x ≠ [] ∧ (32 : UInt8) ∉ x ∧ (10 : UInt8) ∉ x
theorem itoa_word {n : Int} (h0 : 0 ≤ n) : WordOk (Lib.itoa n) := by
  refine ⟨fun e => ?_, fun h => ?_, fun h => ?_⟩
  · obtain ⟨u, rfl⟩ := Int.eq_ofNat_of_zero_le h0
    rw [Lib.itoa_nonneg] at e
    have := (decT_back u).2.2.2
    rw [e] at this
    simp at this
  · have := itoa_bytes h0 h; exact absurd this.1 (by decide)
  · have := itoa_bytes h0 h; exact absurd this.1 (by decide)
theorem key_word {s : List UInt8} (h : isKeyB s = true) : WordOk s := by
  unfold isKeyB at h
  simp only [Bool.and_eq_true, decide_eq_true_eq] at h
  have ha := h.2.2.2.2
  rw [allIn_all, List.all_eq_true] at ha
  refine ⟨fun e => by rw [e] at h; exact absurd h.1 (by decide), fun hm => ?_, fun hm => ?_⟩
  · exact absurd (ha _ hm) (by decide)
  · exact absurd (ha _ hm) (by decide)
theorem kind_word (k : Int) : WordOk (kindW k) := by
  unfold kindW WordOk
  repeat' split
  all_goals decide
theorem frm_word {s : List UInt8} (h : fromB s = true) : WordOk (frmW s) := by
  unfold frmW
  split
  · unfold WordOk; decide
  · rename_i hs
    unfold fromB at h
    simp only [Bool.or_eq_true, Bool.and_eq_true, decide_eq_true_eq] at h
    have h1 := h.resolve_left hs
    have ha := h1.2.2.2
    rw [allIn_all, List.all_eq_true] at ha
    have hp := h1.1
    unfold Lib.trimPrefix at ha
    rw [hp, if_pos rfl] at ha
    cases s with
    | nil => exact absurd rfl hs
    | cons c s =>
      have hc : c = 43 := by
        have : ((43 : UInt8) == c && List.isPrefixOf [] s) = true := hp
        simp at this
        exact this.symm
      subst hc
      have ha' : ∀ x ∈ s, ([48, 49, 50, 51, 52, 53, 54, 55, 56, 57] : List UInt8).contains x = true := ha
      refine ⟨by simp, fun hm => ?_, fun hm => ?_⟩
      · rcases List.mem_cons.1 hm with hm | hm
        · exact absurd hm (by decide)
        · exact absurd (ha' _ hm) (by decide)
      · rcases List.mem_cons.1 hm with hm | hm
        · exact absurd hm (by decide)
        · exact absurd (ha' _ hm) (by decide)
theorem actW_ok {a : Vact} (h : ActGood a) : ∀ x ∈ actW a, WordOk x := fun x hx => by
  have hm := h.mom
  unfold isMomB at hm
  simp only [Bool.and_eq_true, decide_eq_true_eq] at hm
  unfold actW at hx
  rw [List.mem_append] at hx
  rcases hx with hx | hx
  · simp only [List.mem_cons, List.not_mem_nil, or_false] at hx
    rcases hx with rfl | rfl | rfl | rfl
    · exact itoa_word hm.1
    · exact key_word h.box
    · exact key_word h.id
    · exact kind_word _
  · split at hx
    · rename_i hk
      have h9 := h.left hk
      simp only [List.mem_cons, List.not_mem_nil, or_false] at hx
      rcases hx with rfl | rfl
      · exact itoa_word (by omega)
      · exact frm_word h9.2.2
    · cases hx
theorem line_words {a : Vact} (h : ActGood a) : wordsL (spaced (actW a)) = actW a ∧ fullW (actW a) = true ∧ (10 : UInt8) ∉ spaced (actW a) := by
  have h1 := actW_ok h
  refine ⟨wordsL_spaced _ (by unfold actW; simp) (fun x hx => (h1 x hx).2.1), fullW_true (fun i hi => (h1 _ (getD_mem hi)).1), spaced_nl _ (fun x hx => (h1 x hx).2.2)⟩
end Go.Proofs.YtamoclofloijpaaGreatDoor

set_option linter.unusedVariables false
set_option linter.unusedSimpArgs false
namespace Go.Proofs.YtamoclofloijpaaGreatDoor
open Go.RowKit Go.Sort Go.Lib

theorem belowA {B : Nat} {a w : World} (hA : a.heap.size ≤ B) (h : Below a.heap.size a w) : ∀ (vs : List Value) (k : Nat), Below a.heap.size a (w.setCells B k vs) := fun vs k => by
  have hg := setCells_gb (w := w) B vs k
  exact ⟨hg.os.trans h.os, hg.tape.trans h.tape, hg.output.trans h.output, Nat.le_trans h.size hg.size, fun j hj => (hg.block j (Nat.lt_of_lt_of_le hj h.size) (fun e => by injection e with e; omega)).trans (h.block j hj)⟩
theorem blkSet {w : World} {B : Nat} {ty : TypeId} {z0 z1 z2 z3 z4 z5 u0 u1 u2 u3 u4 u5 : Value} (h : Blk w B [z0, z1, z2, z3, z4, z5] ty) : Blk (w.setCells B 0 [u0, u1, u2, u3, u4, u5]) B [u0, u1, u2, u3, u4, u5] ty :=
  (((((h.put 0 u0).put 1 u1).put 2 u2).put 3 u3).put 4 u4).put 5 u5
theorem blkOther {w : World} {B R : Nat} {cs : List Value} {ty : TypeId} (h : Blk w B cs ty) (hn : R ≠ B) (vs : List Value) (k : Nat) : Blk (w.setCells R k vs) B cs ty :=
  h.same ((setCells_gb (w := w) R vs k).block B h.lt (fun e => by injection e with e; exact hn e.symm))
theorem from_not {s : List UInt8} (h : fromB s = true) (hs : s ≠ []) : s ≠ [45] := fun e => by
  subst e
  exact absurd h (by decide)
def ReadP1 (a : Vact) (w : World) (e : Ending) (w' : World) : Prop := e = .returned (.tuple #[a.val, .bool true]) ∧ Below w.heap.size w w'
theorem setc {B i : Nat} {a w : World} {u : Value} (h : Below a.heap.size a w) (hA : a.heap.size ≤ B) : Below a.heap.size a (w.setCell ⟨B, i, none⟩ u) := belowA hA h [u] i
set_option maxRecDepth 100000 in
set_option maxHeartbeats 16000000 in
theorem readAct_any (S : Nat) (w : World) (a : Vact) (hg : ActGood a) (hab : ActB a) (hL : LibsW S w) (hS : S ≤ w.heap.size) :
    Calls Tryz.prog 48 #[.string ⟨(spaced (actW a)).toArray⟩] w (ReadP1 a w) := by
  obtain ⟨hwl, hfull, -⟩ := line_words hg
  have hlen := (actT_len hg hab).1
  have HWO : Hid (∀ W, Below w.heap.size w W → Calls Tryz.prog 93 #[.string ⟨(spaced (actW a)).toArray⟩] W (WordsPost (actW a) W)) := fun W hW => by
    have := wordsBl_any (spaced (actW a)) (by omega) S W (hL.below hW hS)
    rw [hwl] at this
    exact this
  have hmom := hg.mom
  unfold isMomB at hmom
  simp only [Bool.and_eq_true, decide_eq_true_eq] at hmom
  have hk1 := hg.kind0
  have hk5 := hg.kind1
  have HN0 : Hid (∀ W, Calls Tryz.prog 94 #[.string ⟨(Lib.itoa a.at_).toArray⟩, .int .i64 15] W fun e w' => e = .returned (.tuple #[.int .i64 a.at_, .bool true]) ∧ Below W.heap.size W w') := fun W => num15_itoa hmom.1 (by omega) W
  have HID : Hid (∀ W g, (∀ j, j < 5 → W.cell? ⟨g, j, none⟩ = some (.string ⟨(wordsA.getD j []).toArray⟩)) → Calls Tryz.prog 95 #[.slice (some ⟨g, 0, none⟩) 5 5, .string ⟨(kindW a.kind).toArray⟩] W fun e w' => e = .returned (.int .i64 (a.kind - 1)) ∧ W = w') := fun W g hc => idxW_any W g a.kind hk1 hk5 hc
  have HVAL0 : a.val = .agg #[.int .i64 a.at_, .string ⟨a.box.toArray⟩, .string ⟨a.id.toArray⟩, .int .i64 a.kind, .int .i64 a.long, .string ⟨a.frm.toArray⟩] := rfl
  have HAW : actW a = [Lib.itoa a.at_, a.box, a.id, kindW a.kind] ++ if a.kind = 1 then [Lib.itoa a.long, frmW a.frm] else [] := rfl
  have hleft := hg.left
  have hother := hg.other
  have HPP : Hid (∀ e w', ReadP1 a w e w' = (e = .returned (.tuple #[a.val, .bool true]) ∧ Below w.heap.size w w')) := fun _ _ => rfl
  generalize spaced (actW a) = SP at HWO ⊢
  clear hwl hlen hL hab
  have HZ : Hid (Blk (w.alloc (.cells #[.int .i64 0, .string ⟨#[]⟩, .string ⟨#[]⟩, .int .i64 0, .int .i64 0, .string ⟨#[]⟩] 45)) w.heap.size [.int .i64 0, .string ⟨#[]⟩, .string ⟨#[]⟩, .int .i64 0, .int .i64 0, .string ⟨#[]⟩] 45) := Blk.new _ _ _
  have HB1 : Hid (Below w.heap.size w (w.alloc (.cells #[.int .i64 0, .string ⟨#[]⟩, .string ⟨#[]⟩, .int .i64 0, .int .i64 0, .string ⟨#[]⟩] 45))) := ext_alloc (Below.refl _ _)
  obtain ⟨R, hR⟩ : ∃ R, R = w.heap.size := ⟨_, rfl⟩
  have HRW : Hid (w.heap.size ≤ R) := Nat.le_of_eq hR.symm
  by_cases hk : a.kind = 1
  case pos =>
    rw [if_pos hk] at HAW
    have HAL : (actW a).length = 6 := by rw [HAW]; rfl
    obtain ⟨AW, hAW⟩ : ∃ AW, AW = actW a := ⟨_, rfl⟩
    rw [← hAW] at HWO hfull HAW HAL
    clear hAW
    obtain ⟨hlg0, hlg1, hfr⟩ := hleft hk
    have HN4 : Hid (∀ W, Calls Tryz.prog 94 #[.string ⟨(Lib.itoa a.long).toArray⟩, .int .i64 15] W fun e w' => e = .returned (.tuple #[.int .i64 a.long, .bool true]) ∧ Below W.heap.size W w') := fun W => num15_itoa (by omega) (by omega) W
    have HND : Hid (a.frm ≠ [] → a.frm ≠ [45]) := fun h => from_not hfr h
    clear hleft hother hmom hg
    show Calls Tryz.prog 48 _ w (ReadP1 a w)
    have HVAL : Hid (a.val = .agg #[.int .i64 a.at_, .string ⟨a.box.toArray⟩, .string ⟨a.id.toArray⟩, .int .i64 a.kind, .int .i64 a.long, .string ⟨a.frm.toArray⟩]) := HVAL0
    clear HVAL0
    obtain ⟨x0, hx0⟩ : ∃ z, z = a.at_ := ⟨_, rfl⟩
    obtain ⟨f1, hf1⟩ : ∃ z, z = a.box := ⟨_, rfl⟩
    obtain ⟨f2, hf2⟩ : ∃ z, z = a.id := ⟨_, rfl⟩
    obtain ⟨x3, hx3⟩ : ∃ z, z = a.kind := ⟨_, rfl⟩
    obtain ⟨x4, hx4⟩ : ∃ z, z = a.long := ⟨_, rfl⟩
    obtain ⟨f5, hf5e⟩ : ∃ z, z = a.frm := ⟨_, rfl⟩
    obtain ⟨A0, hA0⟩ : ∃ z, z = Lib.itoa a.at_ := ⟨_, rfl⟩
    obtain ⟨kW, hkW⟩ : ∃ z, z = kindW a.kind := ⟨_, rfl⟩
    rw [← hA0, ← hf1, ← hf2, ← hkW] at HAW
    rw [← hA0, ← hx0] at HN0
    rw [← hkW, ← hx3] at HID
    rw [← hx0, ← hf1, ← hf2, ← hx3, ← hx4, ← hf5e] at HVAL
    have hwx : IntKind.i64.wrap x3 = x3 := IntWalk.i64_in _ (by omega)
    obtain ⟨A4, hA4⟩ : ∃ z, z = Lib.itoa a.long := ⟨_, rfl⟩
    obtain ⟨fw, hfwe⟩ : ∃ z, z = frmW a.frm := ⟨_, rfl⟩
    rw [← hA4, ← hfwe] at HAW
    rw [← hA4, ← hx4] at HN4
    rw [← hf5e] at HND
    have HFW : Hid (fw = frmW f5) := by show _ = _; rw [hfwe, hf5e]
    rw [← hx3] at hk
    subst hk
    clear hA4 hfwe
    clear hx0 hf1 hf2 hx3 hx4 hf5e hA0 hkW hk1 hk5
    go_enter Tryz.func48, Tryz.ntmps48
    go_upto_region 1 with (fail)
    generalize (w.alloc (.cells #[.int .i64 0, .string ⟨#[]⟩, .string ⟨#[]⟩, .int .i64 0, .int .i64 0, .string ⟨#[]⟩] 45)) = w1 at HZ HB1 ⊢
    rw [← hR] at HZ ⊢
    clear hR
    as_aux_lemma =>
      go_wp2_with fail
      refine (HWO.out _ HB1.out).mono ?_
      rintro e w2 ⟨hwf, -, hb⟩
      obtain ⟨g, rfl, hrow⟩ := hwf hfull
      rw [HAL, HAW] at hrow
      rw [HAL]
      have HR2 := Lib.hid (HZ.out.below hb)
      have HB2 := Lib.hid (ext_trans HB1.out hb)
      have HXW : Hid (∀ W, Below w2.heap.size w2 W → w.heap.size ≤ W.heap.size) := fun W hW => Nat.le_trans HB2.out.size hW.size
      clear hwf hb HZ HB1 HWO hfull HAW HAL
      have HWC : Hid (∀ W, Below w2.heap.size w2 W → W.cell? ⟨g, 0, none⟩ = some (.string ⟨A0.toArray⟩) ∧ W.cell? ⟨g, 1, none⟩ = some (.string ⟨f1.toArray⟩) ∧ W.cell? ⟨g, 2, none⟩ = some (.string ⟨f2.toArray⟩) ∧ W.cell? ⟨g, 3, none⟩ = some (.string ⟨kW.toArray⟩) ∧ W.cell? ⟨g, 4, none⟩ = some (.string ⟨A4.toArray⟩) ∧ W.cell? ⟨g, 5, none⟩ = some (.string ⟨fw.toArray⟩)) := fun W hW => by
        have h9 := own_keep hrow hW
        refine ⟨(h9.cellAt 0 (by show (0 : Nat) < 6; omega)).trans rfl, (h9.cellAt 1 (by show (1 : Nat) < 6; omega)).trans rfl, (h9.cellAt 2 (by show (2 : Nat) < 6; omega)).trans rfl, (h9.cellAt 3 (by show (3 : Nat) < 6; omega)).trans rfl, (h9.cellAt 4 (by show (4 : Nat) < 6; omega)).trans rfl, (h9.cellAt 5 (by show (5 : Nat) < 6; omega)).trans rfl⟩
      clear hrow
      obtain ⟨k0, k1, k2, k3, k4, k5⟩ := HWC.out w2 (Below.refl _ _)
      as_aux_lemma =>
        go_wp2_with fail
        refine (HN0.out _).mono ?_
        rintro e w3 ⟨rfl, hb⟩
        have HR3 := Lib.hid (HR2.out.below hb)
        have HB3 := Lib.hid (ext_trans HB2.out hb)
        have HW3 : Hid (Below w2.heap.size w2 w3) := hb
        clear hb HR2 HB2 HN0 k0 k1 k2 k3 k4 k5
        as_aux_lemma =>
          go_upto_region 5 with (fail)
          have hd : Below w3.heap.size w3 w3.drew := ext_drew (Below.refl _ _)
          have HR4 := Lib.hid (HR3.out.below hd)
          have HB4 := Lib.hid (ext_trans HB3.out hd)
          have HW4 := Lib.hid (ext_trans HW3.out hd)
          clear hd HR3 HB3 HW3
          refine region_seqI (S := fun W9 => Below w3.drew.heap.size w3.drew W9) [(true, 1), (true, 2), (true, 3), (false, 0), (false, 4), (true, 5), (true, 6)] (by kernel_rfl) (by kernel_rfl) rfl (by kernel_rfl) (Below.refl _ _) ?_
          generalize w3.drew = wd at HR4 HB4 HW4 ⊢
          simp only [seqOps, List.getD_cons_zero, List.getD_cons_succ]
          refine seqI_take (v := .slice (some ⟨g, 0, none⟩) 6 6) rfl (fun W9 hW => by clear hW; go_simp) (fun _ _ _ h => h) ?_
          simp only [Act.put, List.setIfInBounds_toArray, List.set_cons_zero, List.set_cons_succ]
          refine seqI_take (v := .pointer (some ⟨g, 3, none⟩)) rfl (fun W9 hW => by clear hW; go_simp) (fun _ _ _ h => h) ?_
          simp only [Act.put, List.setIfInBounds_toArray, List.set_cons_zero, List.set_cons_succ]
          refine seqI_take (v := .string ⟨kW.toArray⟩) rfl (fun W9 hW => by have k3 := (HWC.out W9 (ext_trans HW4.out hW)).2.2.2.1; clear hW; go_simp) (fun _ _ _ h => h) ?_
          simp only [Act.put, List.setIfInBounds_toArray, List.set_cons_zero, List.set_cons_succ]
          refine seqI_call _ _ rfl (by go_simp) (wordsA_any wd) ?_
          rintro e w5 ⟨rfl, hw5⟩
          have hb5 : Below wd.heap.size wd w5 := by rw [hw5]; exact ext_alloc (Below.refl _ _)
          have hbk : Blk w5 wd.heap.size (wordsA.map encS) 9 := by rw [hw5]; exact Blk.new _ _ _
          have HIX := Lib.hid (HID.out w5 wd.heap.size (fun j hj => hbk.cell j (by
            rw [List.getElem?_map, List.getElem?_eq_getElem (show j < wordsA.length by show j < 5; omega), List.getD_eq_getElem?_getD, List.getElem?_eq_getElem (show j < wordsA.length by show j < 5; omega)]
            rfl)))
          clear hw5 hbk
          refine ⟨_, rfl, hb5, ?_⟩
          simp only [Act.put, List.setIfInBounds_toArray, List.set_cons_zero, List.set_cons_succ]
          refine seqI_call _ _ rfl (by go_simp) HIX.out ?_
          rintro e w6 ⟨rfl, hw6⟩
          subst hw6
          refine ⟨_, rfl, hb5, ?_⟩
          simp only [Act.put, List.setIfInBounds_toArray, List.set_cons_zero, List.set_cons_succ]
          refine seqI_take (v := .int .i64 1) rfl (fun W9 hW => by clear hW; go_simp) (fun _ _ _ h => h) ?_
          simp only [Act.put, List.setIfInBounds_toArray, List.set_cons_zero, List.set_cons_succ]
          refine seqI_take (v := .int .i64 1) rfl (fun W9 hW => by clear hW; go_simp) (fun _ _ _ h => h) ?_
          simp only [Act.put, List.setIfInBounds_toArray, List.set_cons_zero, List.set_cons_succ]
          refine seqI_nil ?_
          have HR5 := Lib.hid (HR4.out.below hb5)
          have HB5 := Lib.hid (ext_trans HB4.out hb5)
          have HW5 := Lib.hid (ext_trans HW4.out hb5)
          clear hb5 HIX HID HR4 HB4 HW4
          as_aux_lemma =>
            go_upto_region 6 with (fail)
            have hd : Below w5.heap.size w5 w5.drew := ext_drew (Below.refl _ _)
            have HR6 := Lib.hid (HR5.out.below hd)
            have HB6 := Lib.hid (ext_trans HB5.out hd)
            have HW6 := Lib.hid (ext_trans HW5.out hd)
            clear hd HR5 HB5 HW5
            refine region_seqI (S := fun W9 => Below w2.heap.size w2 W9) [(true, 0), (true, 1), (true, 2), (true, 3), (true, 4), (true, 5), (true, 6), (true, 7), (true, 8), (false, 9), (false, 10)] (by kernel_rfl) (by kernel_rfl) rfl (by kernel_rfl) HW6.out ?_
            generalize w5.drew = wd at HR6 HB6 HW6 ⊢
            simp only [seqOps, List.getD_cons_zero, List.getD_cons_succ]
            refine seqI_take (v := .int .i64 x0) rfl (fun W9 hW => by clear hW; go_simp) (fun _ _ _ h => h) ?_
            simp only [Act.put, List.setIfInBounds_toArray, List.set_cons_zero, List.set_cons_succ]
            refine seqI_take (v := .slice (some ⟨g, 0, none⟩) 6 6) rfl (fun W9 hW => by clear hW; go_simp) (fun _ _ _ h => h) ?_
            simp only [Act.put, List.setIfInBounds_toArray, List.set_cons_zero, List.set_cons_succ]
            refine seqI_take (v := .pointer (some ⟨g, 1, none⟩)) rfl (fun W9 hW => by clear hW; go_simp) (fun _ _ _ h => h) ?_
            simp only [Act.put, List.setIfInBounds_toArray, List.set_cons_zero, List.set_cons_succ]
            refine seqI_take (v := .string ⟨f1.toArray⟩) rfl (fun W9 hW => by have k1 := (HWC.out W9 hW).2.1; clear hW; go_simp) (fun _ _ _ h => h) ?_
            simp only [Act.put, List.setIfInBounds_toArray, List.set_cons_zero, List.set_cons_succ]
            refine seqI_take (v := .slice (some ⟨g, 0, none⟩) 6 6) rfl (fun W9 hW => by clear hW; go_simp) (fun _ _ _ h => h) ?_
            simp only [Act.put, List.setIfInBounds_toArray, List.set_cons_zero, List.set_cons_succ]
            refine seqI_take (v := .pointer (some ⟨g, 2, none⟩)) rfl (fun W9 hW => by clear hW; go_simp) (fun _ _ _ h => h) ?_
            simp only [Act.put, List.setIfInBounds_toArray, List.set_cons_zero, List.set_cons_succ]
            refine seqI_take (v := .string ⟨f2.toArray⟩) rfl (fun W9 hW => by have k2 := (HWC.out W9 hW).2.2.1; clear hW; go_simp) (fun _ _ _ h => h) ?_
            simp only [Act.put, List.setIfInBounds_toArray, List.set_cons_zero, List.set_cons_succ]
            refine seqI_take (v := .int .i64 1) rfl (fun W9 hW => by clear hW; go_simp) (fun _ _ _ h => h) ?_
            simp only [Act.put, List.setIfInBounds_toArray, List.set_cons_zero, List.set_cons_succ]
            refine seqI_take (v := .agg #[.int .i64 x0, .string ⟨f1.toArray⟩, .string ⟨f2.toArray⟩, .int .i64 1, .int .i64 0, .string ⟨#[]⟩]) rfl (fun W9 hW => by clear hW; go_simp) (fun _ _ _ h => h) ?_
            simp only [Act.put, List.setIfInBounds_toArray, List.set_cons_zero, List.set_cons_succ]
            have hA : Below wd.heap.size wd (wd.alloc (.cells #[.int .i64 0, .string ⟨#[]⟩, .string ⟨#[]⟩, .int .i64 0, .int .i64 0, .string ⟨#[]⟩] 45)) := ext_alloc (Below.refl _ _)
            refine seqI_do rfl (wp_valX (w' := (wd.alloc (.cells #[.int .i64 0, .string ⟨#[]⟩, .string ⟨#[]⟩, .int .i64 0, .int .i64 0, .string ⟨#[]⟩] 45))) (v := .pointer (some ⟨wd.heap.size, 0, none⟩)) (by go_simp) ⟨ext_trans HW6.out hA, ?_⟩)
            simp only [Act.put, List.setIfInBounds_toArray, List.set_cons_zero, List.set_cons_succ]
            have hz : Blk (wd.alloc (.cells #[.int .i64 0, .string ⟨#[]⟩, .string ⟨#[]⟩, .int .i64 0, .int .i64 0, .string ⟨#[]⟩] 45)) wd.heap.size [.int .i64 0, .string ⟨#[]⟩, .string ⟨#[]⟩, .int .i64 0, .int .i64 0, .string ⟨#[]⟩] 45 := Blk.new _ _ _
            have hS : Below wd.heap.size wd ((wd.alloc (.cells #[.int .i64 0, .string ⟨#[]⟩, .string ⟨#[]⟩, .int .i64 0, .int .i64 0, .string ⟨#[]⟩] 45)).setCells wd.heap.size 0 [.int .i64 x0, .string ⟨f1.toArray⟩, .string ⟨f2.toArray⟩, .int .i64 1, .int .i64 0, .string ⟨#[]⟩]) := belowA (Nat.le_refl _) hA _ _
            refine seqI_do rfl (wp_store_mid 45 (.tmp 9) (.tmp 44) rfl wd.heap.size 0 #[.int .i64 x0, .string ⟨f1.toArray⟩, .string ⟨f2.toArray⟩, .int .i64 1, .int .i64 0, .string ⟨#[]⟩] rfl rfl (hz.th 6 (Nat.le_refl 6)) Tryz.actSz (by simp [Value.oneCell']) ⟨ext_trans HW6.out hS, ?_⟩)
            simp only [Act.put, List.setIfInBounds_toArray, List.set_cons_zero, List.set_cons_succ]
            refine seqI_nil ?_
            have X7 : Hid (Blk ((wd.alloc (.cells #[.int .i64 0, .string ⟨#[]⟩, .string ⟨#[]⟩, .int .i64 0, .int .i64 0, .string ⟨#[]⟩] 45)).setCells wd.heap.size 0 [.int .i64 x0, .string ⟨f1.toArray⟩, .string ⟨f2.toArray⟩, .int .i64 1, .int .i64 0, .string ⟨#[]⟩]) wd.heap.size [.int .i64 x0, .string ⟨f1.toArray⟩, .string ⟨f2.toArray⟩, .int .i64 1, .int .i64 0, .string ⟨#[]⟩] 45) := blkSet hz
            have HR7 := Lib.hid (HR6.out.below hS)
            have HB7 := Lib.hid (ext_trans HB6.out hS)
            have HW7 := Lib.hid (ext_trans HW6.out hS)
            have hxw0 : w.heap.size ≤ wd.heap.size := HB6.out.size
            have HNE : Hid (R ≠ wd.heap.size) := by have := HR6.out.lt; show _ ≠ _; omega
            clear hA hz hS HR6 HB6 HW6
            generalize ((wd.alloc (.cells #[.int .i64 0, .string ⟨#[]⟩, .string ⟨#[]⟩, .int .i64 0, .int .i64 0, .string ⟨#[]⟩] 45)).setCells wd.heap.size 0 [.int .i64 x0, .string ⟨f1.toArray⟩, .string ⟨f2.toArray⟩, .int .i64 1, .int .i64 0, .string ⟨#[]⟩]) = w7 at X7 HR7 HB7 HW7 ⊢
            generalize wd.heap.size = XB at X7 HNE hxw0 ⊢
            have hxw := hxw0
            clear hxw0
            obtain ⟨k0, k1, k2, k3, k4, k5⟩ := HWC.out w7 HW7.out
            clear k0 k1 k2 k3
            as_aux_lemma =>
              go_wp2_with fail
              refine (HN4.out _).mono ?_
              rintro e w8 ⟨rfl, hb⟩
              have X8 := Lib.hid (X7.out.below hb)
              have HR8 := Lib.hid (HR7.out.below hb)
              have HB8 := Lib.hid (ext_trans HB7.out hb)
              obtain ⟨m0, m1, m2, m3, m4, m5⟩ := HWC.out w8 (ext_trans HW7.out hb)
              clear hb X7 HR7 HB7 HW7 k4 k5 m0 m1 m2 m3 m4 HN4
              have sc4 := X8.out.cell 4 rfl
              have sf4 := X8.out.fr 4
              have sc5 := X8.out.cell 5 rfl
              have sf5 := X8.out.fr 5
              by_cases hf5 : f5 = []
              · have hfw : fw = [45] := by rw [HFW.out]; unfold frmW; rw [if_pos hf5]
                subst hf5
                subst hfw
                as_aux_lemma =>
                  go_upto_region 15 with (fail)
                  have X9 : Hid (Blk (((w8.setCell ⟨XB, 4, none⟩ (.int .i64 x4)).setCell ⟨XB, 5, none⟩ (.string ⟨#[45]⟩)).setCell ⟨XB, 5, none⟩ (.string ⟨#[]⟩)) XB [.int .i64 x0, .string ⟨f1.toArray⟩, .string ⟨f2.toArray⟩, .int .i64 1, .int .i64 x4, .string ⟨#[]⟩] 45) := (((X8.out.put 4 _).put 5 _).put 5 _)
                  have HR9_ : Hid (Blk (((w8.setCell ⟨XB, 4, none⟩ (.int .i64 x4)).setCell ⟨XB, 5, none⟩ (.string ⟨#[45]⟩)).setCell ⟨XB, 5, none⟩ (.string ⟨#[]⟩)) R [.int .i64 0, .string ⟨#[]⟩, .string ⟨#[]⟩, .int .i64 0, .int .i64 0, .string ⟨#[]⟩] 45) := (((HR8.out.far (Ne.symm HNE.out)).far (Ne.symm HNE.out)).far (Ne.symm HNE.out))
                  have HB9_ : Hid (Below w.heap.size w (((w8.setCell ⟨XB, 4, none⟩ (.int .i64 x4)).setCell ⟨XB, 5, none⟩ (.string ⟨#[45]⟩)).setCell ⟨XB, 5, none⟩ (.string ⟨#[]⟩))) := (setc (setc (setc HB8.out hxw) hxw) hxw)
                  generalize (((w8.setCell ⟨XB, 4, none⟩ (.int .i64 x4)).setCell ⟨XB, 5, none⟩ (.string ⟨#[45]⟩)).setCell ⟨XB, 5, none⟩ (.string ⟨#[]⟩)) = wz at X9 HR9_ HB9_ ⊢
                  clear sc4 sf4 sc5 sf5 m5 X8 HR8 HB8
                  have HTH : Hid (wz.there R 0 6) := HR9_.out.th 6 (Nat.le_refl 6)
                  have HRG : Hid (wz.rangeAt XB 0 [.int .i64 x0, .string ⟨f1.toArray⟩, .string ⟨f2.toArray⟩, .int .i64 1, .int .i64 x4, .string ⟨#[]⟩]) := fun j v hj => by rw [Nat.zero_add]; exact X9.out.cell j hj
                  have HRE : Hid (Blk (wz.setCells R 0 [.int .i64 x0, .string ⟨f1.toArray⟩, .string ⟨f2.toArray⟩, .int .i64 1, .int .i64 x4, .string ⟨#[]⟩]) R [.int .i64 x0, .string ⟨f1.toArray⟩, .string ⟨f2.toArray⟩, .int .i64 1, .int .i64 x4, .string ⟨#[]⟩] 45) := blkSet HR9_.out
                  have HBE : Hid (Below w.heap.size w (wz.setCells R 0 [.int .i64 x0, .string ⟨f1.toArray⟩, .string ⟨f2.toArray⟩, .int .i64 1, .int .i64 x4, .string ⟨#[]⟩])) := belowA HRW.out HB9_.out _ _
                  as_aux_lemma =>
                    go_wp2_with (first | (refine wpList_load_mid rfl 45 (.tmp 9) rfl XB 0 rfl [.int .i64 x0, .string ⟨f1.toArray⟩, .string ⟨f2.toArray⟩, .int .i64 1, .int .i64 x4, .string ⟨#[]⟩] _ HRG.out Tryz.underlying45 rfl Tryz.actSz ?_) | (refine wpList_store_mid rfl 45 (.tmp 2) (.tmp 82) rfl R 0 #[.int .i64 x0, .string ⟨f1.toArray⟩, .string ⟨f2.toArray⟩, .int .i64 1, .int .i64 x4, .string ⟨#[]⟩] rfl rfl HTH.out Tryz.actSz (by simp [Value.oneCell']) ?_; generalize (wz.setCells R 0 [.int .i64 x0, .string ⟨f1.toArray⟩, .string ⟨f2.toArray⟩, .int .i64 1, .int .i64 x4, .string ⟨#[]⟩]) = w9 at HRE HBE ⊢; clear HTH HRG))
                    refine bodyPost_ret (?_ : _ = Result.ok (.tuple #[.agg #[.int .i64 x0, .string ⟨f1.toArray⟩, .string ⟨f2.toArray⟩, .int .i64 1, .int .i64 x4, .string ⟨#[]⟩], .bool true]) _) rfl ?_
                    · exact results_cell2 (t := 2) (u := 3) (by rfl) _ _ _ Tryz.isAgg45 Tryz.sizeOf45 (by rfl) [.int .i64 x0, .string ⟨f1.toArray⟩, .string ⟨f2.toArray⟩, .int .i64 1, .int .i64 x4, .string ⟨#[]⟩] rfl (fun j v hj => HRE.out.cell j hj)
                    exact ⟨by rw [HVAL.out], HBE.out⟩
              have hfw : fw = f5 := by rw [HFW.out]; unfold frmW; rw [if_neg hf5]
              have hnd := HND.out hf5
              subst hfw
              have hfb : (fw == [45]) = false := beq_eq_false_iff_ne.2 hnd
              clear hf5 hnd
              as_aux_lemma =>
                go_upto_region 15 with (fail)
                have X9 : Hid (Blk ((w8.setCell ⟨XB, 4, none⟩ (.int .i64 x4)).setCell ⟨XB, 5, none⟩ (.string ⟨fw.toArray⟩)) XB [.int .i64 x0, .string ⟨f1.toArray⟩, .string ⟨f2.toArray⟩, .int .i64 1, .int .i64 x4, .string ⟨fw.toArray⟩] 45) := ((X8.out.put 4 _).put 5 _)
                have HR9_ : Hid (Blk ((w8.setCell ⟨XB, 4, none⟩ (.int .i64 x4)).setCell ⟨XB, 5, none⟩ (.string ⟨fw.toArray⟩)) R [.int .i64 0, .string ⟨#[]⟩, .string ⟨#[]⟩, .int .i64 0, .int .i64 0, .string ⟨#[]⟩] 45) := ((HR8.out.far (Ne.symm HNE.out)).far (Ne.symm HNE.out))
                have HB9_ : Hid (Below w.heap.size w ((w8.setCell ⟨XB, 4, none⟩ (.int .i64 x4)).setCell ⟨XB, 5, none⟩ (.string ⟨fw.toArray⟩))) := (setc (setc HB8.out hxw) hxw)
                generalize ((w8.setCell ⟨XB, 4, none⟩ (.int .i64 x4)).setCell ⟨XB, 5, none⟩ (.string ⟨fw.toArray⟩)) = wz at X9 HR9_ HB9_ ⊢
                clear sc4 sf4 sc5 sf5 m5 X8 HR8 HB8 hfb
                have HTH : Hid (wz.there R 0 6) := HR9_.out.th 6 (Nat.le_refl 6)
                have HRG : Hid (wz.rangeAt XB 0 [.int .i64 x0, .string ⟨f1.toArray⟩, .string ⟨f2.toArray⟩, .int .i64 1, .int .i64 x4, .string ⟨fw.toArray⟩]) := fun j v hj => by rw [Nat.zero_add]; exact X9.out.cell j hj
                have HRE : Hid (Blk (wz.setCells R 0 [.int .i64 x0, .string ⟨f1.toArray⟩, .string ⟨f2.toArray⟩, .int .i64 1, .int .i64 x4, .string ⟨fw.toArray⟩]) R [.int .i64 x0, .string ⟨f1.toArray⟩, .string ⟨f2.toArray⟩, .int .i64 1, .int .i64 x4, .string ⟨fw.toArray⟩] 45) := blkSet HR9_.out
                have HBE : Hid (Below w.heap.size w (wz.setCells R 0 [.int .i64 x0, .string ⟨f1.toArray⟩, .string ⟨f2.toArray⟩, .int .i64 1, .int .i64 x4, .string ⟨fw.toArray⟩])) := belowA HRW.out HB9_.out _ _
                as_aux_lemma =>
                  go_wp2_with (first | (refine wpList_load_mid rfl 45 (.tmp 9) rfl XB 0 rfl [.int .i64 x0, .string ⟨f1.toArray⟩, .string ⟨f2.toArray⟩, .int .i64 1, .int .i64 x4, .string ⟨fw.toArray⟩] _ HRG.out Tryz.underlying45 rfl Tryz.actSz ?_) | (refine wpList_store_mid rfl 45 (.tmp 2) (.tmp 82) rfl R 0 #[.int .i64 x0, .string ⟨f1.toArray⟩, .string ⟨f2.toArray⟩, .int .i64 1, .int .i64 x4, .string ⟨fw.toArray⟩] rfl rfl HTH.out Tryz.actSz (by simp [Value.oneCell']) ?_; generalize (wz.setCells R 0 [.int .i64 x0, .string ⟨f1.toArray⟩, .string ⟨f2.toArray⟩, .int .i64 1, .int .i64 x4, .string ⟨fw.toArray⟩]) = w9 at HRE HBE ⊢; clear HTH HRG))
                  refine bodyPost_ret (?_ : _ = Result.ok (.tuple #[.agg #[.int .i64 x0, .string ⟨f1.toArray⟩, .string ⟨f2.toArray⟩, .int .i64 1, .int .i64 x4, .string ⟨fw.toArray⟩], .bool true]) _) rfl ?_
                  · exact results_cell2 (t := 2) (u := 3) (by rfl) _ _ _ Tryz.isAgg45 Tryz.sizeOf45 (by rfl) [.int .i64 x0, .string ⟨f1.toArray⟩, .string ⟨f2.toArray⟩, .int .i64 1, .int .i64 x4, .string ⟨fw.toArray⟩] rfl (fun j v hj => HRE.out.cell j hj)
                  exact ⟨by rw [HVAL.out], HBE.out⟩
  rw [if_neg hk] at HAW
  have HAL : (actW a).length = 4 := by rw [HAW]; rfl
  obtain ⟨AW, hAW⟩ : ∃ AW, AW = actW a := ⟨_, rfl⟩
  rw [← hAW] at HWO hfull HAW HAL
  clear hAW
  obtain ⟨hlg, hfr⟩ := hother hk
  have HK1 : Hid (a.kind ≠ 1) := hk
  have HK0 : Hid (0 < a.kind) := by show _ < _; omega
  clear hleft hother hmom hg
  show Calls Tryz.prog 48 _ w (ReadP1 a w)
  have HVAL : Hid (a.val = .agg #[.int .i64 a.at_, .string ⟨a.box.toArray⟩, .string ⟨a.id.toArray⟩, .int .i64 a.kind, .int .i64 a.long, .string ⟨a.frm.toArray⟩]) := HVAL0
  clear HVAL0
  obtain ⟨x0, hx0⟩ : ∃ z, z = a.at_ := ⟨_, rfl⟩
  obtain ⟨f1, hf1⟩ : ∃ z, z = a.box := ⟨_, rfl⟩
  obtain ⟨f2, hf2⟩ : ∃ z, z = a.id := ⟨_, rfl⟩
  obtain ⟨x3, hx3⟩ : ∃ z, z = a.kind := ⟨_, rfl⟩
  obtain ⟨x4, hx4⟩ : ∃ z, z = a.long := ⟨_, rfl⟩
  obtain ⟨f5, hf5e⟩ : ∃ z, z = a.frm := ⟨_, rfl⟩
  obtain ⟨A0, hA0⟩ : ∃ z, z = Lib.itoa a.at_ := ⟨_, rfl⟩
  obtain ⟨kW, hkW⟩ : ∃ z, z = kindW a.kind := ⟨_, rfl⟩
  rw [← hA0, ← hf1, ← hf2, ← hkW] at HAW
  rw [← hA0, ← hx0] at HN0
  rw [← hkW, ← hx3] at HID
  rw [← hx0, ← hf1, ← hf2, ← hx3, ← hx4, ← hf5e] at HVAL
  have hwx : IntKind.i64.wrap x3 = x3 := IntWalk.i64_in _ (by omega)
  rw [← hx3] at HK1 HK0
  rw [← hx4] at hlg
  rw [← hf5e] at hfr
  subst hlg hfr
  clear hk
  clear hx0 hf1 hf2 hx3 hx4 hf5e hA0 hkW hk1 hk5
  go_enter Tryz.func48, Tryz.ntmps48
  go_upto_region 1 with (fail)
  generalize (w.alloc (.cells #[.int .i64 0, .string ⟨#[]⟩, .string ⟨#[]⟩, .int .i64 0, .int .i64 0, .string ⟨#[]⟩] 45)) = w1 at HZ HB1 ⊢
  rw [← hR] at HZ ⊢
  clear hR
  as_aux_lemma =>
    go_wp2_with fail
    refine (HWO.out _ HB1.out).mono ?_
    rintro e w2 ⟨hwf, -, hb⟩
    obtain ⟨g, rfl, hrow⟩ := hwf hfull
    rw [HAL, HAW] at hrow
    rw [HAL]
    have HR2 := Lib.hid (HZ.out.below hb)
    have HB2 := Lib.hid (ext_trans HB1.out hb)
    have HXW : Hid (∀ W, Below w2.heap.size w2 W → w.heap.size ≤ W.heap.size) := fun W hW => Nat.le_trans HB2.out.size hW.size
    clear hwf hb HZ HB1 HWO hfull HAW HAL
    have HWC : Hid (∀ W, Below w2.heap.size w2 W → W.cell? ⟨g, 0, none⟩ = some (.string ⟨A0.toArray⟩) ∧ W.cell? ⟨g, 1, none⟩ = some (.string ⟨f1.toArray⟩) ∧ W.cell? ⟨g, 2, none⟩ = some (.string ⟨f2.toArray⟩) ∧ W.cell? ⟨g, 3, none⟩ = some (.string ⟨kW.toArray⟩)) := fun W hW => by
      have h9 := own_keep hrow hW
      refine ⟨(h9.cellAt 0 (by show (0 : Nat) < 4; omega)).trans rfl, (h9.cellAt 1 (by show (1 : Nat) < 4; omega)).trans rfl, (h9.cellAt 2 (by show (2 : Nat) < 4; omega)).trans rfl, (h9.cellAt 3 (by show (3 : Nat) < 4; omega)).trans rfl⟩
    clear hrow
    obtain ⟨k0, k1, k2, k3⟩ := HWC.out w2 (Below.refl _ _)
    as_aux_lemma =>
      go_wp2_with fail
      refine (HN0.out _).mono ?_
      rintro e w3 ⟨rfl, hb⟩
      have HR3 := Lib.hid (HR2.out.below hb)
      have HB3 := Lib.hid (ext_trans HB2.out hb)
      have HW3 : Hid (Below w2.heap.size w2 w3) := hb
      clear hb HR2 HB2 HN0 k0 k1 k2 k3
      as_aux_lemma =>
        go_upto_region 5 with (fail)
        have hd : Below w3.heap.size w3 w3.drew := ext_drew (Below.refl _ _)
        have HR4 := Lib.hid (HR3.out.below hd)
        have HB4 := Lib.hid (ext_trans HB3.out hd)
        have HW4 := Lib.hid (ext_trans HW3.out hd)
        clear hd HR3 HB3 HW3
        refine region_seqI (S := fun W9 => Below w3.drew.heap.size w3.drew W9) [(true, 1), (true, 2), (true, 3), (false, 0), (false, 4), (true, 5), (true, 6)] (by kernel_rfl) (by kernel_rfl) rfl (by kernel_rfl) (Below.refl _ _) ?_
        generalize w3.drew = wd at HR4 HB4 HW4 ⊢
        simp only [seqOps, List.getD_cons_zero, List.getD_cons_succ]
        refine seqI_take (v := .slice (some ⟨g, 0, none⟩) 4 4) rfl (fun W9 hW => by clear hW; go_simp) (fun _ _ _ h => h) ?_
        simp only [Act.put, List.setIfInBounds_toArray, List.set_cons_zero, List.set_cons_succ]
        refine seqI_take (v := .pointer (some ⟨g, 3, none⟩)) rfl (fun W9 hW => by clear hW; go_simp) (fun _ _ _ h => h) ?_
        simp only [Act.put, List.setIfInBounds_toArray, List.set_cons_zero, List.set_cons_succ]
        refine seqI_take (v := .string ⟨kW.toArray⟩) rfl (fun W9 hW => by have k3 := (HWC.out W9 (ext_trans HW4.out hW)).2.2.2; clear hW; go_simp) (fun _ _ _ h => h) ?_
        simp only [Act.put, List.setIfInBounds_toArray, List.set_cons_zero, List.set_cons_succ]
        refine seqI_call _ _ rfl (by go_simp) (wordsA_any wd) ?_
        rintro e w5 ⟨rfl, hw5⟩
        have hb5 : Below wd.heap.size wd w5 := by rw [hw5]; exact ext_alloc (Below.refl _ _)
        have hbk : Blk w5 wd.heap.size (wordsA.map encS) 9 := by rw [hw5]; exact Blk.new _ _ _
        have HIX := Lib.hid (HID.out w5 wd.heap.size (fun j hj => hbk.cell j (by
          rw [List.getElem?_map, List.getElem?_eq_getElem (show j < wordsA.length by show j < 5; omega), List.getD_eq_getElem?_getD, List.getElem?_eq_getElem (show j < wordsA.length by show j < 5; omega)]
          rfl)))
        clear hw5 hbk
        refine ⟨_, rfl, hb5, ?_⟩
        simp only [Act.put, List.setIfInBounds_toArray, List.set_cons_zero, List.set_cons_succ]
        refine seqI_call _ _ rfl (by go_simp) HIX.out ?_
        rintro e w6 ⟨rfl, hw6⟩
        subst hw6
        refine ⟨_, rfl, hb5, ?_⟩
        simp only [Act.put, List.setIfInBounds_toArray, List.set_cons_zero, List.set_cons_succ]
        refine seqI_take (v := .int .i64 x3) rfl (fun W9 hW => by clear hW; go_simp) (fun _ _ _ h => h) ?_
        simp only [Act.put, List.setIfInBounds_toArray, List.set_cons_zero, List.set_cons_succ]
        refine seqI_take (v := .int .i64 x3) rfl (fun W9 hW => by clear hW; go_simp) (fun _ _ _ h => h) ?_
        simp only [Act.put, List.setIfInBounds_toArray, List.set_cons_zero, List.set_cons_succ]
        refine seqI_nil ?_
        have HR5 := Lib.hid (HR4.out.below hb5)
        have HB5 := Lib.hid (ext_trans HB4.out hb5)
        have HW5 := Lib.hid (ext_trans HW4.out hb5)
        clear hb5 HIX HID HR4 HB4 HW4
        as_aux_lemma =>
          go_upto_region 6 with (fail)
          have hd : Below w5.heap.size w5 w5.drew := ext_drew (Below.refl _ _)
          have HR6 := Lib.hid (HR5.out.below hd)
          have HB6 := Lib.hid (ext_trans HB5.out hd)
          have HW6 := Lib.hid (ext_trans HW5.out hd)
          clear hd HR5 HB5 HW5
          refine region_seqI (S := fun W9 => Below w2.heap.size w2 W9) [(true, 0), (true, 1), (true, 2), (true, 3), (true, 4), (true, 5), (true, 6), (true, 7), (true, 8), (false, 9), (false, 10)] (by kernel_rfl) (by kernel_rfl) rfl (by kernel_rfl) HW6.out ?_
          generalize w5.drew = wd at HR6 HB6 HW6 ⊢
          simp only [seqOps, List.getD_cons_zero, List.getD_cons_succ]
          refine seqI_take (v := .int .i64 x0) rfl (fun W9 hW => by clear hW; go_simp) (fun _ _ _ h => h) ?_
          simp only [Act.put, List.setIfInBounds_toArray, List.set_cons_zero, List.set_cons_succ]
          refine seqI_take (v := .slice (some ⟨g, 0, none⟩) 4 4) rfl (fun W9 hW => by clear hW; go_simp) (fun _ _ _ h => h) ?_
          simp only [Act.put, List.setIfInBounds_toArray, List.set_cons_zero, List.set_cons_succ]
          refine seqI_take (v := .pointer (some ⟨g, 1, none⟩)) rfl (fun W9 hW => by clear hW; go_simp) (fun _ _ _ h => h) ?_
          simp only [Act.put, List.setIfInBounds_toArray, List.set_cons_zero, List.set_cons_succ]
          refine seqI_take (v := .string ⟨f1.toArray⟩) rfl (fun W9 hW => by have k1 := (HWC.out W9 hW).2.1; clear hW; go_simp) (fun _ _ _ h => h) ?_
          simp only [Act.put, List.setIfInBounds_toArray, List.set_cons_zero, List.set_cons_succ]
          refine seqI_take (v := .slice (some ⟨g, 0, none⟩) 4 4) rfl (fun W9 hW => by clear hW; go_simp) (fun _ _ _ h => h) ?_
          simp only [Act.put, List.setIfInBounds_toArray, List.set_cons_zero, List.set_cons_succ]
          refine seqI_take (v := .pointer (some ⟨g, 2, none⟩)) rfl (fun W9 hW => by clear hW; go_simp) (fun _ _ _ h => h) ?_
          simp only [Act.put, List.setIfInBounds_toArray, List.set_cons_zero, List.set_cons_succ]
          refine seqI_take (v := .string ⟨f2.toArray⟩) rfl (fun W9 hW => by have k2 := (HWC.out W9 hW).2.2.1; clear hW; go_simp) (fun _ _ _ h => h) ?_
          simp only [Act.put, List.setIfInBounds_toArray, List.set_cons_zero, List.set_cons_succ]
          refine seqI_take (v := .int .i64 x3) rfl (fun W9 hW => by clear hW; go_simp) (fun _ _ _ h => h) ?_
          simp only [Act.put, List.setIfInBounds_toArray, List.set_cons_zero, List.set_cons_succ]
          refine seqI_take (v := .agg #[.int .i64 x0, .string ⟨f1.toArray⟩, .string ⟨f2.toArray⟩, .int .i64 x3, .int .i64 0, .string ⟨#[]⟩]) rfl (fun W9 hW => by clear hW; go_simp) (fun _ _ _ h => h) ?_
          simp only [Act.put, List.setIfInBounds_toArray, List.set_cons_zero, List.set_cons_succ]
          have hA : Below wd.heap.size wd (wd.alloc (.cells #[.int .i64 0, .string ⟨#[]⟩, .string ⟨#[]⟩, .int .i64 0, .int .i64 0, .string ⟨#[]⟩] 45)) := ext_alloc (Below.refl _ _)
          refine seqI_do rfl (wp_valX (w' := (wd.alloc (.cells #[.int .i64 0, .string ⟨#[]⟩, .string ⟨#[]⟩, .int .i64 0, .int .i64 0, .string ⟨#[]⟩] 45))) (v := .pointer (some ⟨wd.heap.size, 0, none⟩)) (by go_simp) ⟨ext_trans HW6.out hA, ?_⟩)
          simp only [Act.put, List.setIfInBounds_toArray, List.set_cons_zero, List.set_cons_succ]
          have hz : Blk (wd.alloc (.cells #[.int .i64 0, .string ⟨#[]⟩, .string ⟨#[]⟩, .int .i64 0, .int .i64 0, .string ⟨#[]⟩] 45)) wd.heap.size [.int .i64 0, .string ⟨#[]⟩, .string ⟨#[]⟩, .int .i64 0, .int .i64 0, .string ⟨#[]⟩] 45 := Blk.new _ _ _
          have hS : Below wd.heap.size wd ((wd.alloc (.cells #[.int .i64 0, .string ⟨#[]⟩, .string ⟨#[]⟩, .int .i64 0, .int .i64 0, .string ⟨#[]⟩] 45)).setCells wd.heap.size 0 [.int .i64 x0, .string ⟨f1.toArray⟩, .string ⟨f2.toArray⟩, .int .i64 x3, .int .i64 0, .string ⟨#[]⟩]) := belowA (Nat.le_refl _) hA _ _
          refine seqI_do rfl (wp_store_mid 45 (.tmp 9) (.tmp 44) rfl wd.heap.size 0 #[.int .i64 x0, .string ⟨f1.toArray⟩, .string ⟨f2.toArray⟩, .int .i64 x3, .int .i64 0, .string ⟨#[]⟩] rfl rfl (hz.th 6 (Nat.le_refl 6)) Tryz.actSz (by simp [Value.oneCell']) ⟨ext_trans HW6.out hS, ?_⟩)
          simp only [Act.put, List.setIfInBounds_toArray, List.set_cons_zero, List.set_cons_succ]
          refine seqI_nil ?_
          have X7 : Hid (Blk ((wd.alloc (.cells #[.int .i64 0, .string ⟨#[]⟩, .string ⟨#[]⟩, .int .i64 0, .int .i64 0, .string ⟨#[]⟩] 45)).setCells wd.heap.size 0 [.int .i64 x0, .string ⟨f1.toArray⟩, .string ⟨f2.toArray⟩, .int .i64 x3, .int .i64 0, .string ⟨#[]⟩]) wd.heap.size [.int .i64 x0, .string ⟨f1.toArray⟩, .string ⟨f2.toArray⟩, .int .i64 x3, .int .i64 0, .string ⟨#[]⟩] 45) := blkSet hz
          have HR7 := Lib.hid (HR6.out.below hS)
          have HB7 := Lib.hid (ext_trans HB6.out hS)
          have HW7 := Lib.hid (ext_trans HW6.out hS)
          have HNE : Hid (R ≠ wd.heap.size) := by have := HR6.out.lt; show _ ≠ _; omega
          clear hA hz hS HR6 HB6 HW6
          generalize ((wd.alloc (.cells #[.int .i64 0, .string ⟨#[]⟩, .string ⟨#[]⟩, .int .i64 0, .int .i64 0, .string ⟨#[]⟩] 45)).setCells wd.heap.size 0 [.int .i64 x0, .string ⟨f1.toArray⟩, .string ⟨f2.toArray⟩, .int .i64 x3, .int .i64 0, .string ⟨#[]⟩]) = w7 at X7 HR7 HB7 HW7 ⊢
          generalize wd.heap.size = XB at X7 HNE ⊢
          have hx30 : 0 < x3 := HK0.out
          have hx3b : (x3 != 1) = true := bne_iff_ne.2 HK1.out
          have HTH : Hid (w7.there R 0 6) := HR7.out.th 6 (Nat.le_refl 6)
          have HRG : Hid (w7.rangeAt XB 0 [.int .i64 x0, .string ⟨f1.toArray⟩, .string ⟨f2.toArray⟩, .int .i64 x3, .int .i64 0, .string ⟨#[]⟩]) := fun j v hj => by rw [Nat.zero_add]; exact X7.out.cell j hj
          have HR9 : Hid (Blk (w7.setCells R 0 [.int .i64 x0, .string ⟨f1.toArray⟩, .string ⟨f2.toArray⟩, .int .i64 x3, .int .i64 0, .string ⟨#[]⟩]) R [.int .i64 x0, .string ⟨f1.toArray⟩, .string ⟨f2.toArray⟩, .int .i64 x3, .int .i64 0, .string ⟨#[]⟩] 45) := blkSet HR7.out
          have HB9 : Hid (Below w.heap.size w (w7.setCells R 0 [.int .i64 x0, .string ⟨f1.toArray⟩, .string ⟨f2.toArray⟩, .int .i64 x3, .int .i64 0, .string ⟨#[]⟩])) := belowA HRW.out HB7.out _ _
          as_aux_lemma =>
            go_wp2_with (first | (refine wpList_load_mid rfl 45 (.tmp 9) rfl XB 0 rfl [.int .i64 x0, .string ⟨f1.toArray⟩, .string ⟨f2.toArray⟩, .int .i64 x3, .int .i64 0, .string ⟨#[]⟩] _ HRG.out Tryz.underlying45 rfl Tryz.actSz ?_) | (refine wpList_store_mid rfl 45 (.tmp 2) (.tmp 51) rfl R 0 #[.int .i64 x0, .string ⟨f1.toArray⟩, .string ⟨f2.toArray⟩, .int .i64 x3, .int .i64 0, .string ⟨#[]⟩] rfl rfl HTH.out Tryz.actSz (by simp [Value.oneCell']) ?_; generalize (w7.setCells R 0 [.int .i64 x0, .string ⟨f1.toArray⟩, .string ⟨f2.toArray⟩, .int .i64 x3, .int .i64 0, .string ⟨#[]⟩]) = w9 at HR9 HB9 ⊢; clear HTH HRG))
            refine bodyPost_ret (?_ : _ = Result.ok (.tuple #[.agg #[.int .i64 x0, .string ⟨f1.toArray⟩, .string ⟨f2.toArray⟩, .int .i64 x3, .int .i64 0, .string ⟨#[]⟩], .bool true]) _) rfl ?_
            · exact results_cell2 (t := 2) (u := 3) (by rfl) _ _ _ Tryz.isAgg45 Tryz.sizeOf45 (by rfl) [.int .i64 x0, .string ⟨f1.toArray⟩, .string ⟨f2.toArray⟩, .int .i64 x3, .int .i64 0, .string ⟨#[]⟩] rfl (fun j v hj => HR9.out.cell j hj)
            exact ⟨by rw [HVAL.out], HB9.out⟩
end Go.Proofs.YtamoclofloijpaaGreatDoor
