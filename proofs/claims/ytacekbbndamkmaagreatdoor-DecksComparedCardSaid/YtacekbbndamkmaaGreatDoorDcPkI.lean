/- What is proved here: lemmas and contracts for the statement, put together out of smaller texts (DkmBs, DkmBr). No condition beyond those stated. -/
import Derived.Test.YtacekbbndamkmaaGreatDoorDcPkH
set_option linter.unusedVariables false
set_option linter.unusedSimpArgs false
namespace Go.Proofs.YtacekbbndamkmaaGreatDoor
open Go.RowKit
open Go.Maps

/-- Rates of the call's own, and an error. -/
def RatesPostE (xs : List Rate) (E : Int) (w : World) (e : Ending) (w' : World) : Prop := ∃ v, e = .returned (.tuple #[v, .int .i64 E]) ∧ w'.ownsRow w.heap.size 51 3 v xs.length ((xs.map Rate.cells).flatten) ∧ Below w.heap.size w w'
theorem least_few (rs : List Rate) : (leastR rs).length ≤ rs.length := by
  unfold leastR usedR
  exact Nat.le_trans (List.length_filter_le _ _) (List.length_filter_le _ _)
theorem bl_dbs0 (e : Operand → Value) (he : ∀ v, e (.const v) = v) (o : Oper) (w : World) (i0 : Nat) (i1 : Nat) (z0_0 : Int) (z0_1 : Int) (z0_2 : Int) (z0_3 : Int) (a0_4 : Option Addr) (n0_4 : Nat) (m0_4 : Nat) (z1_0 : Int) (z1_1 : Int) (z1_2 : Int) (z1_3 : Int) (a1_4 : Option Addr) (n1_4 : Nat) (m1_4 : Nat) (ho : o.op = .buildSlice 123 2 #[(0, .tmp i0), (1, .tmp i1)]) (h0 : e (.tmp i0) = .agg #[.int .i64 z0_0, .int .i64 z0_1, .int .i64 z0_2, .int .i64 z0_3, .slice a0_4 n0_4 m0_4]) (h1 : e (.tmp i1) = .agg #[.int .i64 z1_0, .int .i64 z1_1, .int .i64 z1_2, .int .i64 z1_3, .slice a1_4 n1_4 m1_4]) :
   (execOp e o).run Tryz.prog w = .ok (.value (.slice (some ⟨w.heap.size, 0, none⟩) 2 2)) (w.alloc (.cells #[.int .i64 z0_0, .int .i64 z0_1, .int .i64 z0_2, .int .i64 z0_3, .slice a0_4 n0_4 m0_4, .int .i64 z1_0, .int .i64 z1_1, .int .i64 z1_2, .int .i64 z1_3, .slice a1_4 n1_4 m1_4] 28)) := by
  unfold execOp
  rw [ho]
  simp only [List.map_toArray, List.map_cons, List.map_nil, h0, h1]
  kernel_rfl
theorem bl_dbs1 (e : Operand → Value) (he : ∀ v, e (.const v) = v) (o : Oper) (w : World) (i0 : Nat) (p0_0 : ByteArray) (z0_1 : Int) (b0_2 : Bool) (ho : o.op = .buildSlice 26 1 #[(0, .tmp i0)]) (h0 : e (.tmp i0) = .agg #[.string p0_0, .int .i64 z0_1, .bool b0_2]) :
   (execOp e o).run Tryz.prog w = .ok (.value (.slice (some ⟨w.heap.size, 0, none⟩) 1 1)) (w.alloc (.cells #[.string p0_0, .int .i64 z0_1, .bool b0_2] 51)) := by
  unfold execOp
  rw [ho]
  simp only [List.map_toArray, List.map_cons, List.map_nil, h0]
  kernel_rfl
set_option maxRecDepth 100000 in
set_option maxHeartbeats 8000000 in
theorem carBest_any (w : World) (a b : Deck) (ha : DeckFine w a) (hb : DeckFine w b) (h100 : a.rates.length + b.rates.length ≤ 100) (E : Int) (hE : firstE (deckErr a) (deckErr b) = E) : Calls Tryz.prog 18 #[.agg a.cells.toArray, .agg b.cells.toArray] w (RatesPostE (if E = 0 then leastR (bestV a.rates b.rates) else []) E w) := by
  obtain ⟨i1, hi1, hy0, hy1, hy2⟩ := info_parts Tryz.infoRate
  have HEA : Hid (∀ i, i < (bestV a.rates b.rates).length → ((bestV a.rates b.rates).getD i noRate).p.length ≤ 100 ∧ -2000000000000 ≤ ((bestV a.rates b.rates).getD i noRate).price ∧ ((bestV a.rates b.rates).getD i noRate).price ≤ 2000000000000) := best_each ha.row hb.row
  have HFW : Hid ((bestV a.rates b.rates).length ≤ 100) := best_few h100
  have hkk : (a.rates.map (·.p) ++ b.rates.map (·.p)).length ≤ 100 := by rw [List.length_append, List.length_map, List.length_map]; exact h100
  clear h100
  have HCT : Hid (∀ W, Below w.heap.size w W → Calls Tryz.prog 47 #[.agg a.cells.toArray, .agg b.cells.toArray] W (ErrPost E W)) := fun W hW => hE ▸ checkTwo_any W a b (ha.below hW) (hb.below hW)
  have HP2 := Lib.hid (preTwo ha hb)
  have HDL : Hid (∀ W, Below w.heap.size w W → DeckRow (W.alloc (.cells (([a, b].map Deck.cells).flatten).toArray 28)) (some ⟨W.heap.size, 0, none⟩) 2 [a, b]) := fun W hW => deck_lit W [a, b] (by simp) (fun i hi => by
    have hi' : i < 2 := by simpa using hi
    match i, hi' with
    | 0, _ => exact ha.below hW
    | 1, _ => exact hb.below hW)
  have HPT : Hid (prefK [a, b] = a.rates.map (·.p) ++ b.rates.map (·.p)) := pre_two a b
  have HSA : Hid (E = 0 → RSorted a.rates ∧ RSorted b.rates) := fun h => by
    have h2 : deckErr a = 0 ∧ deckErr b = 0 := first_both (hE.trans h)
    exact ⟨(deck_good (Nat.le_trans (by rw [← ha.row.len]; exact ha.row.few) (by decide)) h2.1).sorted, (deck_good (Nat.le_trans (by rw [← hb.row.len]; exact hb.row.few) (by decide)) h2.2).sorted⟩
  have HRA := Lib.hid ha.row
  have HRB := Lib.hid hb.row
  clear ha hb hE
  obtain ⟨gf, gs, gl, gp, ga, gn, gc, grs⟩ := a
  obtain ⟨kf, ks, kl, kp, ka, kn, kc, krs⟩ := b
  have HCT2 : Hid (∀ W, Below w.heap.size w W → Calls Tryz.prog 47 #[.agg #[.int .i64 gf, .int .i64 gs, .int .i64 gl, .int .i64 gp, .slice ga gn gc], .agg #[.int .i64 kf, .int .i64 ks, .int .i64 kl, .int .i64 kp, .slice ka kn kc]] W (ErrPost E W)) := HCT.out
  have HDL2 : Hid (∀ W, Below w.heap.size w W → DeckRow (W.alloc (.cells #[.int .i64 gf, .int .i64 gs, .int .i64 gl, .int .i64 gp, .slice ga gn gc, .int .i64 kf, .int .i64 ks, .int .i64 kl, .int .i64 kp, .slice ka kn kc] 28)) (some ⟨W.heap.size, 0, none⟩) 2 [(⟨gf, gs, gl, gp, ga, gn, gc, grs⟩ : Deck), (⟨kf, ks, kl, kp, ka, kn, kc, krs⟩ : Deck)]) := HDL.out
  show Calls Tryz.prog 18 #[.agg #[.int .i64 gf, .int .i64 gs, .int .i64 gl, .int .i64 gp, .slice ga gn gc], .agg #[.int .i64 kf, .int .i64 ks, .int .i64 kl, .int .i64 kp, .slice ka kn kc]] w _
  simp only at HPT HSA HRA HRB HP2 HEA HFW hkk ⊢
  clear HCT HDL
  by_cases hE : E = 0
  case neg =>
    rw [if_neg hE]
    have hEb : (E == 0) = false := beq_eq_false_iff_ne.2 hE
    clear HSA HRA HRB HPT HP2 HDL2 HEA HFW hkk
    have HX : Hid (Blk ((w.alloc (.cells #[.int .i64 gf, .int .i64 gs, .int .i64 gl, .int .i64 gp, .slice ga gn gc] 28)).alloc (.cells #[.int .i64 kf, .int .i64 ks, .int .i64 kl, .int .i64 kp, .slice ka kn kc] 28)) w.heap.size [.int .i64 gf, .int .i64 gs, .int .i64 gl, .int .i64 gp, .slice ga gn gc] 28) := (Blk.new w _ _).alloc _
    have HY : Hid (Blk ((w.alloc (.cells #[.int .i64 gf, .int .i64 gs, .int .i64 gl, .int .i64 gp, .slice ga gn gc] 28)).alloc (.cells #[.int .i64 kf, .int .i64 ks, .int .i64 kl, .int .i64 kp, .slice ka kn kc] 28)) (w.heap.size + 1) [.int .i64 kf, .int .i64 ks, .int .i64 kl, .int .i64 kp, .slice ka kn kc] 28) := by
      have := Blk.new (w.alloc (.cells #[.int .i64 gf, .int .i64 gs, .int .i64 gl, .int .i64 gp, .slice ga gn gc] 28)) [.int .i64 kf, .int .i64 ks, .int .i64 kl, .int .i64 kp, .slice ka kn kc] 28
      rw [show (w.alloc (.cells #[.int .i64 gf, .int .i64 gs, .int .i64 gl, .int .i64 gp, .slice ga gn gc] 28)).heap.size = w.heap.size + 1 by simp] at this
      exact this
    have HA : Hid (Below w.heap.size w ((w.alloc (.cells #[.int .i64 gf, .int .i64 gs, .int .i64 gl, .int .i64 gp, .slice ga gn gc] 28)).alloc (.cells #[.int .i64 kf, .int .i64 ks, .int .i64 kl, .int .i64 kp, .slice ka kn kc] 28))) := ext_alloc (ext_alloc (Below.refl _ _))
    go_enter Tryz.func18, Tryz.ntmps18
    as_aux_lemma =>
      go_upto_region 1 with (fail)
      generalize World.alloc (World.alloc w _) _ = w1 at HX HY HA ⊢
      obtain ⟨Y, hY⟩ : ∃ Y, Y = w.heap.size + 1 := ⟨_, rfl⟩
      obtain ⟨X, hX⟩ : ∃ X, X = w.heap.size := ⟨_, rfl⟩
      rw [← hY] at HY
      rw [← hX] at HX
      simp only [← hY]
      simp only [← hX]
      clear hX hY
      have x0 := HX.out.cell 0 rfl
      have x1 := HX.out.cell 1 rfl
      have x2 := HX.out.cell 2 rfl
      have x3 := HX.out.cell 3 rfl
      have x4 := HX.out.cell 4 rfl
      have y0 := HY.out.cell 0 rfl
      have y1 := HY.out.cell 1 rfl
      have y2 := HY.out.cell 2 rfl
      have y3 := HY.out.cell 3 rfl
      have y4 := HY.out.cell 4 rfl
      as_aux_lemma =>
        go_wp2_with fail
        refine (HCT2.out w1 HA.out).mono ?_
        rintro e w2 ⟨rfl, hb2⟩
        have HB2 := Lib.hid (ext_trans HA.out hb2)
        clear hb2 HX HY HA HCT2 x0 x1 x2 x3 x4 y0 y1 y2 y3 y4
        as_aux_lemma =>
          go_wp2_with fail
          go_ret2
          exact ⟨_, rfl, World.ownsRow_nil _ _ _ _, HB2.out⟩
  subst hE
  rw [if_pos rfl]
  obtain ⟨hsa, hsb⟩ := HSA.out rfl
  have HSA2 := Lib.hid hsa
  have HSB2 := Lib.hid hsb
  clear hsa hsb HSA
  have HWO : Hid (∀ W base v, W.ownsRow base 51 3 v (bestV grs krs).length (((bestV grs krs).map Rate.cells).flatten) → Calls Tryz.prog 45 #[v] W (RatesPost (leastR (bestV grs krs)) W)) := fun W base v h => by
    obtain ⟨a9, c9, rfl, hc9, hr9⟩ := rate_of_own h HFW.out HEA.out
    rw [← without_same (best_sorted _ _)]
    exact carWithout_any W a9 _ c9 _ hr9 (best_sorted _ _) hc9
  have hlf : (leastR (bestV grs krs)).length ≤ 100 := Nat.le_trans (least_few _) HFW.out
  have HDV : Hid (bestV grs krs = (onceL (grs.map (·.p) ++ krs.map (·.p))).map (bestO grs krs)) := rfl
  clear HEA HFW
  generalize leastR (bestV grs krs) = RR at HWO hlf ⊢
  generalize bestV grs krs = R at HDV HWO
  generalize grs.map (·.p) ++ krs.map (·.p) = K at HPT HP2 HDV hkk
  have HX : Hid (Blk ((w.alloc (.cells #[.int .i64 gf, .int .i64 gs, .int .i64 gl, .int .i64 gp, .slice ga gn gc] 28)).alloc (.cells #[.int .i64 kf, .int .i64 ks, .int .i64 kl, .int .i64 kp, .slice ka kn kc] 28)) w.heap.size [.int .i64 gf, .int .i64 gs, .int .i64 gl, .int .i64 gp, .slice ga gn gc] 28) := (Blk.new w _ _).alloc _
  have HY : Hid (Blk ((w.alloc (.cells #[.int .i64 gf, .int .i64 gs, .int .i64 gl, .int .i64 gp, .slice ga gn gc] 28)).alloc (.cells #[.int .i64 kf, .int .i64 ks, .int .i64 kl, .int .i64 kp, .slice ka kn kc] 28)) (w.heap.size + 1) [.int .i64 kf, .int .i64 ks, .int .i64 kl, .int .i64 kp, .slice ka kn kc] 28) := by
    have := Blk.new (w.alloc (.cells #[.int .i64 gf, .int .i64 gs, .int .i64 gl, .int .i64 gp, .slice ga gn gc] 28)) [.int .i64 kf, .int .i64 ks, .int .i64 kl, .int .i64 kp, .slice ka kn kc] 28
    rw [show (w.alloc (.cells #[.int .i64 gf, .int .i64 gs, .int .i64 gl, .int .i64 gp, .slice ga gn gc] 28)).heap.size = w.heap.size + 1 by simp] at this
    exact this
  have HA : Hid (Below w.heap.size w ((w.alloc (.cells #[.int .i64 gf, .int .i64 gs, .int .i64 gl, .int .i64 gp, .slice ga gn gc] 28)).alloc (.cells #[.int .i64 kf, .int .i64 ks, .int .i64 kl, .int .i64 kp, .slice ka kn kc] 28))) := ext_alloc (ext_alloc (Below.refl _ _))
  go_enter Tryz.func18, Tryz.ntmps18
  as_aux_lemma =>
    go_upto_region 1 with (fail)
    generalize World.alloc (World.alloc w _) _ = w1 at HX HY HA ⊢
    obtain ⟨Y, hY⟩ : ∃ Y, Y = w.heap.size + 1 := ⟨_, rfl⟩
    obtain ⟨X, hX⟩ : ∃ X, X = w.heap.size := ⟨_, rfl⟩
    rw [← hY] at HY
    rw [← hX] at HX
    simp only [← hY]
    simp only [← hX]
    clear hX hY
    have x0 := HX.out.cell 0 rfl
    have x1 := HX.out.cell 1 rfl
    have x2 := HX.out.cell 2 rfl
    have x3 := HX.out.cell 3 rfl
    have x4 := HX.out.cell 4 rfl
    have y0 := HY.out.cell 0 rfl
    have y1 := HY.out.cell 1 rfl
    have y2 := HY.out.cell 2 rfl
    have y3 := HY.out.cell 3 rfl
    have y4 := HY.out.cell 4 rfl
    as_aux_lemma =>
      go_wp2_with fail
      refine (HCT2.out w1 HA.out).mono ?_
      rintro e w2 ⟨rfl, hb2⟩
      have HX2 := Lib.hid (HX.out.below hb2)
      have HY2 := Lib.hid (HY.out.below hb2)
      have HB2 := Lib.hid (ext_trans HA.out hb2)
      clear hb2 HX HY HA HCT2 x0 x1 x2 x3 x4 y0 y1 y2 y3 y4
      have x0 := HX2.out.cell 0 rfl
      have x1 := HX2.out.cell 1 rfl
      have x2 := HX2.out.cell 2 rfl
      have x3 := HX2.out.cell 3 rfl
      have x4 := HX2.out.cell 4 rfl
      have y0 := HY2.out.cell 0 rfl
      have y1 := HY2.out.cell 1 rfl
      have y2 := HY2.out.cell 2 rfl
      have y3 := HY2.out.cell 3 rfl
      have y4 := HY2.out.cell 4 rfl
      have hA : Below w2.heap.size w2 (w2.alloc (.cells #[.int .i64 gf, .int .i64 gs, .int .i64 gl, .int .i64 gp, .slice ga gn gc, .int .i64 kf, .int .i64 ks, .int .i64 kl, .int .i64 kp, .slice ka kn kc] 28)) := ext_alloc (Below.refl _ _)
      have HX3 := Lib.hid (HX2.out.below hA)
      have HY3 := Lib.hid (HY2.out.below hA)
      have HB3 := Lib.hid (ext_trans HB2.out hA)
      have HD3 := Lib.hid (HDL2.out w2 HB2.out)
      clear hA HX2 HY2 HB2 HDL2
      as_aux_lemma =>
        go_wp2_with (first | (refine wpList_val rfl (bl_dbs0 _ (fun _ => rfl) _ _ 21 22 gf gs gl gp ga gn gc kf ks kl kp ka kn kc rfl rfl rfl) ?_))
        generalize (w2.alloc (.cells #[.int .i64 gf, .int .i64 gs, .int .i64 gl, .int .i64 gp, .slice ga gn gc, .int .i64 kf, .int .i64 ks, .int .i64 kl, .int .i64 kp, .slice ka kn kc] 28)) = w3 at HX3 HY3 HB3 HD3 ⊢
        generalize w2.heap.size = V2 at HD3 ⊢
        clear x0 x1 x2 x3 x4 y0 y1 y2 y3 y4
        refine (prefixesOf_any w3 _ 2 _ _ HD3.out (by decide)).mono ?_
        rintro e w4 ⟨mb, D, rfl, hm4, hms, hmb, hb4⟩
        rw [HPT.out] at hm4 hms
        have HX4 := Lib.hid (HX3.out.below hb4)
        have HY4 := Lib.hid (HY3.out.below hb4)
        have HB4 := Lib.hid (ext_trans HB3.out hb4)
        have HLI := Lib.hid (list_any K (by omega) mb K.length D hms w4 hm4)
        clear hm4 hms hmb hb4 HX3 HY3 HB3 HD3 HPT
        as_aux_lemma =>
          go_wp2_with fail
          refine HLI.out.mono ?_
          rintro e w5 ⟨v5, rfl, ho5, hb5⟩
          obtain ⟨va, vc, rfl⟩ := own_shape ho5
          have HO5 := Lib.hid ho5
          have HX5 := Lib.hid (HX4.out.below hb5)
          have HY5 := Lib.hid (HY4.out.below hb5)
          have HB5 := Lib.hid (ext_trans HB4.out hb5)
          have hkl := once_len K
          generalize w4.heap.size = W4 at HO5
          clear ho5 hb5 HLI HX4 HY4 HB4
          as_aux_lemma =>
            go_wp2_with fail
            go_loopw [7, 27] (fun vo it wr => ∃ (i : Nat) (os : List Rate), i ≤ (onceL K).length ∧ it = .int .i64 i ∧ Hid (os = ((onceL K).take i).map (bestO grs krs)) ∧ Hid (wr.ownsRow w5.heap.size 51 3 vo os.length ((os.map Rate.cells).flatten)) ∧ Hid (Below w5.heap.size w5 wr)) (fun _ it _ => (onceL K).length - (intOf it).toNat)
            case atStart => exact ⟨0, [], Nat.zero_le _, rfl, rfl, World.ownsRow_nil _ _ _ _, Below.refl _ _⟩
            case round =>
              obtain ⟨i, os, hin, rfl, HU, HO, HB⟩ := hrel
              obtain ⟨vo, rfl⟩ : ∃ x : Value, x = u7 := ⟨_, rfl⟩
              have hol : os.length ≤ 100 := by
                rw [HU.out, List.length_map, List.length_take]
                omega
              by_cases hlt : i < (onceL K).length
              case neg =>
                have hii : i = (onceL K).length := by omega
                have e : os = R := by rw [HDV.out, HU.out, hii, List.take_length]
                have HWW : Hid (Calls Tryz.prog 45 #[vo] wr (RatesPost RR wr)) := HWO.out wr _ vo (by rw [← e]; exact HO.out)
                have HB6 := Lib.hid (ext_trans HB5.out HB.out)
                have hnn : ¬ (i : Int) < ((onceL K).length : Int) := by omega
                clear HU HO HB HDV HX5 HY5 HO5 HB5 HWO e hol
                as_aux_lemma =>
                  go_wp2_with fail
                  refine HWW.out.mono ?_
                  rintro e w7 ⟨v7, rfl, ho7, hb7⟩
                  obtain ⟨va7, vc7, rfl⟩ := own_shape ho7
                  have HE : Hid (RatesPostE RR 0 w (.returned (.tuple #[.slice va7 RR.length vc7, .int .i64 0])) w7) := ⟨_, rfl, own_le ho7 HB6.out.size, ext_trans HB6.out hb7⟩
                  have h5k : ¬ (5000 : Int) < (RR.length : Int) := by omega
                  have h5n : ¬ 5000 < RR.length := by omega
                  clear ho7 hb7 HB6 HWW
                  as_aux_lemma =>
                    go_wp2_with fail
                    go_ret2
                    exact HE.out
              have hlti : (i : Int) < ((onceL K).length : Int) := by omega
              have HOL := Lib.hid (own_keep HO5.out HB.out)
              obtain ⟨g, rfl, hg0, hg1⟩ := own_pos HOL.out (by omega)
              have c0 : wr.cell? ⟨g, i, none⟩ = some (.string ⟨((onceL K).getD i []).toArray⟩) := by
                have h9 := HOL.out.cellAt i (by omega)
                rw [h9]
                simp [encS, List.getD_eq_getElem?_getD, hlt]
              have hsl := HP2.out.at_ i
              have HST0 : Hid (((onceL K).take (i + 1)).map (bestO grs krs) = ((onceL K).take i).map (bestO grs krs) ++ [bestO grs krs ((onceL K).getD i [])]) := map_step _ _ [] i hlt
              generalize (onceL K).getD i [] = s at c0 hsl HST0
              have HST : Hid (((onceL K).take (i + 1)).map (bestO grs krs) = ((onceL K).take i).map (bestO grs krs) ++ [⟨s, (lesserV ((rateOf grs s s.length).getD noRate) ((rateOf krs s s.length).getD noRate) (rateOf grs s s.length).isSome (rateOf krs s s.length).isSome).price, (lesserV ((rateOf grs s s.length).getD noRate) ((rateOf krs s s.length).getD noRate) (rateOf grs s s.length).isSome (rateOf krs s s.length).isSome).closed⟩]) := HST0.out
              have HR1 : Hid (∀ W, Below w5.heap.size w5 W → Calls Tryz.prog 51 #[.agg #[.int .i64 gf, .int .i64 gs, .int .i64 gl, .int .i64 gp, .slice ga gn gc], .string ⟨s.toArray⟩, .int .i64 (s.length : Int)] W (RatePost (rateOf grs s s.length) W)) := fun W hW => rate_any W gf gs gl gp ga gn gc grs s s.length (HRA.out.below (ext_trans HB5.out hW)) HSA2.out (by omega) (by omega)
              have HR2 : Hid (∀ W, Below w5.heap.size w5 W → Calls Tryz.prog 51 #[.agg #[.int .i64 kf, .int .i64 ks, .int .i64 kl, .int .i64 kp, .slice ka kn kc], .string ⟨s.toArray⟩, .int .i64 (s.length : Int)] W (RatePost (rateOf krs s s.length) W)) := fun W hW => rate_any W kf ks kl kp ka kn kc krs s s.length (HRB.out.below (ext_trans HB5.out hW)) HSB2.out (by omega) (by omega)
              generalize rateOf grs s s.length = o1 at HST HR1
              generalize rateOf krs s s.length = o2 at HST HR2
              clear HOL HST0
              have HX6 := Lib.hid (HX5.out.below HB.out)
              have HY6 := Lib.hid (HY5.out.below HB.out)
              have HB6 := HB
              have HO6 := HO
              clear HB HO
              obtain ⟨w6, rfl⟩ : ∃ x : World, x = wr := ⟨_, rfl⟩
              have x0 := HX6.out.cell 0 rfl
              have x1 := HX6.out.cell 1 rfl
              have x2 := HX6.out.cell 2 rfl
              have x3 := HX6.out.cell 3 rfl
              have x4 := HX6.out.cell 4 rfl
              as_aux_lemma =>
                go_wp2_with fail
                refine (HR1.out w6 HB6.out).mono ?_
                intro e w7 hrp
                obtain ⟨hb7, rfl⟩ := ratePostD hrp
                generalize o1.getD noRate = r1 at HST
                generalize o1.isSome = f1 at HST
                obtain ⟨r1p, r1q, r1l⟩ := r1
                clear hrp HR1 x0 x1 x2 x3 x4
                have HY7 := Lib.hid (HY6.out.below hb7)
                have HB7 := Lib.hid (ext_trans HB6.out hb7)
                have HO7 := Lib.hid (own_keep HO6.out hb7)
                clear hb7 HB6 HO6 HX6 HY6
                simp only
                have hA : Below w7.heap.size w7 (w7.alloc (.cells #[.string ⟨r1p.toArray⟩, .int .i64 r1q, .bool r1l] 51)) := ext_alloc (Below.refl _ _)
                have HP8 : Hid (Blk (w7.alloc (.cells #[.string ⟨r1p.toArray⟩, .int .i64 r1q, .bool r1l] 51)) w7.heap.size [.string ⟨r1p.toArray⟩, .int .i64 r1q, .bool r1l] 51) := Blk.new w7 [.string ⟨r1p.toArray⟩, .int .i64 r1q, .bool r1l] 51
                have HY8 := Lib.hid (HY7.out.below hA)
                have HB8 := Lib.hid (ext_trans HB7.out hA)
                have HO8 := Lib.hid (own_keep HO7.out hA)
                clear hA HY7 HB7 HO7
                as_aux_lemma =>
                  go_upto_region 9 with (fail)
                  generalize (w7.alloc (.cells #[.string ⟨r1p.toArray⟩, .int .i64 r1q, .bool r1l] 51)) = w8 at HP8 HY8 HB8 HO8 ⊢
                  generalize w7.heap.size = P at HP8 ⊢
                  have y0 := HY8.out.cell 0 rfl
                  have y1 := HY8.out.cell 1 rfl
                  have y2 := HY8.out.cell 2 rfl
                  have y3 := HY8.out.cell 3 rfl
                  have y4 := HY8.out.cell 4 rfl
                  as_aux_lemma =>
                    go_wp2_with fail
                    refine (HR2.out w8 HB8.out).mono ?_
                    intro e w3 hrp
                    obtain ⟨hb3, rfl⟩ := ratePostD hrp
                    generalize o2.getD noRate = r2 at HST
                    generalize o2.isSome = f2 at HST
                    obtain ⟨r2p, r2q, r2l⟩ := r2
                    clear hrp HR2 y0 y1 y2 y3 y4
                    have HP3 := Lib.hid (HP8.out.below hb3)
                    have HB3 := Lib.hid (ext_trans HB8.out hb3)
                    have HO3 := Lib.hid (own_keep HO8.out hb3)
                    clear hb3 HB8 HO8 HP8 HY8
                    simp only
                    have hA : Below w3.heap.size w3 (w3.alloc (.cells #[.string ⟨r2p.toArray⟩, .int .i64 r2q, .bool r2l] 51)) := ext_alloc (Below.refl _ _)
                    have HQ9 : Hid (Blk (w3.alloc (.cells #[.string ⟨r2p.toArray⟩, .int .i64 r2q, .bool r2l] 51)) w3.heap.size [.string ⟨r2p.toArray⟩, .int .i64 r2q, .bool r2l] 51) := Blk.new w3 [.string ⟨r2p.toArray⟩, .int .i64 r2q, .bool r2l] 51
                    have HP9 := Lib.hid (HP3.out.below hA)
                    have HB9 := Lib.hid (ext_trans HB3.out hA)
                    have HO9 := Lib.hid (own_keep HO3.out hA)
                    clear hA HP3 HB3 HO3
                    as_aux_lemma =>
                      go_upto_region 10 with (fail)
                      generalize (w3.alloc (.cells #[.string ⟨r2p.toArray⟩, .int .i64 r2q, .bool r2l] 51)) = w9 at HQ9 HP9 HB9 HO9 ⊢
                      generalize w3.heap.size = Q at HQ9 ⊢
                      have p0 := HP9.out.cell 0 rfl
                      have p1 := HP9.out.cell 1 rfl
                      have p2 := HP9.out.cell 2 rfl
                      have q0 := HQ9.out.cell 0 rfl
                      have q1 := HQ9.out.cell 1 rfl
                      have q2 := HQ9.out.cell 2 rfl
                      clear HP9 HQ9
                      have HLS : Hid (Calls Tryz.prog 60 #[.agg #[.string ⟨r1p.toArray⟩, .int .i64 r1q, .bool r1l], .agg #[.string ⟨r2p.toArray⟩, .int .i64 r2q, .bool r2l], .bool f1, .bool f2] w9 fun e w' => e = .returned (.agg #[.string ⟨(lesserV ⟨r1p, r1q, r1l⟩ ⟨r2p, r2q, r2l⟩ f1 f2).p.toArray⟩, .int .i64 (lesserV ⟨r1p, r1q, r1l⟩ ⟨r2p, r2q, r2l⟩ f1 f2).price, .bool (lesserV ⟨r1p, r1q, r1l⟩ ⟨r2p, r2q, r2l⟩ f1 f2).closed]) ∧ Below w9.heap.size w9 w') := lesser_any ⟨r1p, r1q, r1l⟩ ⟨r2p, r2q, r2l⟩ f1 f2 w9
                      generalize lesserV ⟨r1p, r1q, r1l⟩ ⟨r2p, r2q, r2l⟩ f1 f2 = r3 at HST HLS
                      obtain ⟨r3p, r3q, r3l⟩ := r3
                      simp only at HST HLS
                      as_aux_lemma =>
                        go_wp2_with fail
                        refine HLS.out.mono ?_
                        rintro e w7 ⟨rfl, hb7⟩
                        have HB7 := Lib.hid (ext_trans HB9.out hb7)
                        have HO7 := Lib.hid (own_keep HO9.out hb7)
                        clear hb7 HB9 HO9 HLS p0 p1 p2 q0 q1 q2
                        have hA : Below w7.heap.size w7 (w7.alloc (.cells #[.string ⟨r3p.toArray⟩, .int .i64 r3q, .bool r3l] 51)) := ext_alloc (Below.refl _ _)
                        have HZ9 : Hid (Blk (w7.alloc (.cells #[.string ⟨r3p.toArray⟩, .int .i64 r3q, .bool r3l] 51)) w7.heap.size [.string ⟨r3p.toArray⟩, .int .i64 r3q, .bool r3l] 51) := Blk.new w7 [.string ⟨r3p.toArray⟩, .int .i64 r3q, .bool r3l] 51
                        have HB9 := Lib.hid (ext_trans HB7.out hA)
                        have HO9 := Lib.hid (own_keep HO7.out hA)
                        clear hA HB7 HO7
                        as_aux_lemma =>
                          go_upto_region 11 with (fail)
                          generalize (w7.alloc (.cells #[.string ⟨r3p.toArray⟩, .int .i64 r3q, .bool r3l] 51)) = w9 at HZ9 HB9 HO9 ⊢
                          generalize w7.heap.size = Z at HZ9 ⊢
                          have z1 := HZ9.out.cell 1 rfl
                          have z2 := HZ9.out.cell 2 rfl
                          clear HZ9
                          have HN : Hid (os ++ [⟨s, r3q, r3l⟩] = ((onceL K).take (i + 1)).map (bestO grs krs)) := by
                            show _ = _
                            rw [HST.out, HU.out]
                          clear HST HU
                          have hoz := HO9.out
                          obtain ⟨oa, oc, rfl⟩ := own_shape hoz
                          have hrow : w5.heap.size ≤ w9.heap.size := HB9.out.size
                          have HOA : Hid (World.ownsRow (w9.alloc (.cells #[.string ⟨s.toArray⟩, .int .i64 r3q, .bool r3l] 51)) w5.heap.size 51 3 (.slice oa os.length oc) os.length ((os.map Rate.cells).flatten)) := World.ownsRow.alloc hoz (.cells #[.string ⟨s.toArray⟩, .int .i64 r3q, .bool r3l] 51)
                          have HNA : Hid (Blk (w9.alloc (.cells #[.string ⟨s.toArray⟩, .int .i64 r3q, .bool r3l] 51)) w9.heap.size [.string ⟨s.toArray⟩, .int .i64 r3q, .bool r3l] 51) := Blk.new w9 [.string ⟨s.toArray⟩, .int .i64 r3q, .bool r3l] 51
                          have hvw : ∀ b, (Value.slice oa os.length oc).ownBlock = some b → w5.heap.size ≤ b := fun b e => (hoz.lt b e).1
                          clear hoz
                          as_aux_lemma =>
                            go_wp2_with (first | (refine wpList_val rfl (bl_dbs1 _ (fun _ => rfl) _ _ 58 ⟨s.toArray⟩ r3q r3l rfl rfl) ?_) | (at_builtin; go_loud (refine wpList_append_own_at _ rfl (.tmp 52) (.tmp 59) 26 rfl w5.heap.size 51 i1 _ 3 32 Tryz.underlying26 hi1 hy0 hy1 hy2 rfl (by omega) (.slice oa os.length oc) os.length _ rfl HOA.out ⟨w9.heap.size, 0, none⟩ 1 1 [.string ⟨s.toArray⟩, .int .i64 r3q, .bool r3l] rfl rfl (fun j u hj => by rw [add0]; exact HNA.out.cell j hj) (by simp [Value.oneCell']) (by simp only [maxLen]; omega) (by omega) (by simp; omega) ?_); intro v12 w12 hown12 hgr12 _ hat12; have HQ1 := Lib.hid hown12; have HQ2 := Lib.hid hgr12; clear hown12 hgr12 hat12 HOA HNA; refine Hid.out ?_))
                            refine Lib.hid ?_
                            have HO12 : Hid (w12.ownsRow w5.heap.size 51 3 v12 (os ++ [(⟨s, r3q, r3l⟩ : Rate)]).length (((os ++ [(⟨s, r3q, r3l⟩ : Rate)]).map Rate.cells).flatten)) := by
                              show World.ownsRow _ _ _ _ _ _ _
                              rw [rcells_snoc, List.length_append]
                              exact HQ1.out
                            have HB12 : Hid (Below w5.heap.size w5 w12) := HB9.out.trans (upto_grown HQ2.out hrow hvw)
                            clear HQ1 HQ2 HO9 HB9
                            as_aux_lemma =>
                              go_wp2_with fail
                              go_roundw
                              case rel => exact ⟨i + 1, os ++ [(⟨s, r3q, r3l⟩ : Rate)], by omega, by go_num, HN.out, HO12.out, HB12.out⟩
                              case measure => simp [intOf]; omega
end Go.Proofs.YtacekbbndamkmaaGreatDoor

set_option linter.unusedVariables false
set_option linter.unusedSimpArgs false
namespace Go.Proofs.YtacekbbndamkmaaGreatDoor
open Go.RowKit
open Go.Maps

theorem none_rate {o : Option Rate} (h : o.isSome = false) : o.getD noRate = noRate := by
  cases o with
  | none => rfl
  | some r => cases h
theorem bl_dbr0 (e : Operand → Value) (he : ∀ v, e (.const v) = v) (o : Oper) (w : World) (i0 : Nat) (i1 : Nat) (a0 : Option Addr) (n0 : Nat) (m0 : Nat) (a1 : Option Addr) (n1 : Nat) (m1 : Nat) (ho : o.op = .buildSlice 127 2 #[(0, .tmp i0), (1, .tmp i1)]) (h0 : e (.tmp i0) = .slice a0 n0 m0) (h1 : e (.tmp i1) = .slice a1 n1 m1) :
   (execOp e o).run Tryz.prog w = .ok (.value (.slice (some ⟨w.heap.size, 0, none⟩) 2 2)) (w.alloc (.cells #[.slice a0 n0 m0, .slice a1 n1 m1] 26)) := by
  unfold execOp
  rw [ho]
  simp only [List.map_toArray, List.map_cons, List.map_nil, h0, h1]
  kernel_rfl
theorem bl_dbr1 (e : Operand → Value) (he : ∀ v, e (.const v) = v) (o : Oper) (w : World) (i0 : Nat) (p0_0 : ByteArray) (z0_1 : Int) (b0_2 : Bool) (ho : o.op = .buildSlice 26 1 #[(0, .tmp i0)]) (h0 : e (.tmp i0) = .agg #[.string p0_0, .int .i64 z0_1, .bool b0_2]) :
   (execOp e o).run Tryz.prog w = .ok (.value (.slice (some ⟨w.heap.size, 0, none⟩) 1 1)) (w.alloc (.cells #[.string p0_0, .int .i64 z0_1, .bool b0_2] 51)) := by
  unfold execOp
  rw [ho]
  simp only [List.map_toArray, List.map_cons, List.map_nil, h0]
  kernel_rfl
set_option maxRecDepth 100000 in
set_option maxHeartbeats 8000000 in
theorem bestRates_any (w : World) (a b : Deck) (ha : DeckFine w a) (hb : DeckFine w b) (hE : deckErr a = 0 ∧ deckErr b = 0) (h100 : a.rates.length + b.rates.length ≤ 100) : Calls Tryz.prog 20 #[.agg a.cells.toArray, .agg b.cells.toArray] w (RatesPost (leastR (bestV a.rates b.rates)) w) := by
  obtain ⟨i1, hi1, hy0, hy1, hy2⟩ := info_parts Tryz.infoRate
  have HEA : Hid (∀ i, i < (bestV a.rates b.rates).length → ((bestV a.rates b.rates).getD i noRate).p.length ≤ 100 ∧ -2000000000000 ≤ ((bestV a.rates b.rates).getD i noRate).price ∧ ((bestV a.rates b.rates).getD i noRate).price ≤ 2000000000000) := best_each ha.row hb.row
  have HFW : Hid ((bestV a.rates b.rates).length ≤ 100) := best_few h100
  have hkk : (a.rates.map (·.p) ++ b.rates.map (·.p)).length ≤ 100 := by rw [List.length_append, List.length_map, List.length_map]; exact h100
  clear h100
  have HMA : Hid (∀ s k, ((rateOf a.rates s k).getD noRate).closed = true → ((rateOf a.rates s k).getD noRate).price = 0) := rate_choice (deck_more (Nat.le_trans (by rw [← ha.row.len]; exact ha.row.few) (by decide)) hE.1)
  have HMB : Hid (∀ s k, ((rateOf b.rates s k).getD noRate).closed = true → ((rateOf b.rates s k).getD noRate).price = 0) := rate_choice (deck_more (Nat.le_trans (by rw [← hb.row.len]; exact hb.row.few) (by decide)) hE.2)
  have HP2 := Lib.hid (preTwo ha hb)
  have HPA : Hid (∀ W, Below w.heap.size w W → RatesAt (W.alloc (.cells #[.slice a.ra a.rn a.rc, .slice b.ra b.rn b.rc] 26)) W.heap.size 2 [a, b]) := fun W hW => pair_rates (ha.below hW) (hb.below hW)
  have HPT : Hid (prefK [a, b] = a.rates.map (·.p) ++ b.rates.map (·.p)) := pre_two a b
  have hgd1 := deck_good (Nat.le_trans (by rw [← ha.row.len]; exact ha.row.few) (by decide)) hE.1
  have hgd2 := deck_good (Nat.le_trans (by rw [← hb.row.len]; exact hb.row.few) (by decide)) hE.2
  have HSA2 := Lib.hid hgd1.sorted
  have HSB2 := Lib.hid hgd2.sorted
  have HRA := Lib.hid ha.row
  have HRB := Lib.hid hb.row
  clear ha hb hE hgd1 hgd2
  obtain ⟨gf, gs, gl, gp, ga, gn, gc, grs⟩ := a
  obtain ⟨kf, ks, kl, kp, ka, kn, kc, krs⟩ := b
  have HPA2 : Hid (∀ W, Below w.heap.size w W → RatesAt (W.alloc (.cells #[.slice ga gn gc, .slice ka kn kc] 26)) W.heap.size 2 [(⟨gf, gs, gl, gp, ga, gn, gc, grs⟩ : Deck), (⟨kf, ks, kl, kp, ka, kn, kc, krs⟩ : Deck)]) := HPA.out
  show Calls Tryz.prog 20 #[.agg #[.int .i64 gf, .int .i64 gs, .int .i64 gl, .int .i64 gp, .slice ga gn gc], .agg #[.int .i64 kf, .int .i64 ks, .int .i64 kl, .int .i64 kp, .slice ka kn kc]] w _
  simp only at HPT HSA2 HSB2 HRA HRB HP2 HEA HFW hkk HMA HMB ⊢
  clear HPA
  have HWO : Hid (∀ W base v, W.ownsRow base 51 3 v (bestV grs krs).length (((bestV grs krs).map Rate.cells).flatten) → Calls Tryz.prog 46 #[v] W (RatesPost (leastR (bestV grs krs)) W)) := fun W base v h => by
    obtain ⟨a9, c9, rfl, hc9, hr9⟩ := rate_of_own h HFW.out HEA.out
    exact leastRates_any W a9 _ c9 _ hr9
  have HDV : Hid (bestV grs krs = (onceL (grs.map (·.p) ++ krs.map (·.p))).map (bestO grs krs)) := rfl
  clear HEA HFW
  generalize leastR (bestV grs krs) = RR at HWO ⊢
  generalize bestV grs krs = R at HDV HWO
  generalize grs.map (·.p) ++ krs.map (·.p) = K at HPT HP2 HDV hkk
  have HX : Hid (Blk ((w.alloc (.cells #[.int .i64 gf, .int .i64 gs, .int .i64 gl, .int .i64 gp, .slice ga gn gc] 28)).alloc (.cells #[.int .i64 kf, .int .i64 ks, .int .i64 kl, .int .i64 kp, .slice ka kn kc] 28)) w.heap.size [.int .i64 gf, .int .i64 gs, .int .i64 gl, .int .i64 gp, .slice ga gn gc] 28) := (Blk.new w _ _).alloc _
  have HY : Hid (Blk ((w.alloc (.cells #[.int .i64 gf, .int .i64 gs, .int .i64 gl, .int .i64 gp, .slice ga gn gc] 28)).alloc (.cells #[.int .i64 kf, .int .i64 ks, .int .i64 kl, .int .i64 kp, .slice ka kn kc] 28)) (w.heap.size + 1) [.int .i64 kf, .int .i64 ks, .int .i64 kl, .int .i64 kp, .slice ka kn kc] 28) := by
    have := Blk.new (w.alloc (.cells #[.int .i64 gf, .int .i64 gs, .int .i64 gl, .int .i64 gp, .slice ga gn gc] 28)) [.int .i64 kf, .int .i64 ks, .int .i64 kl, .int .i64 kp, .slice ka kn kc] 28
    rw [show (w.alloc (.cells #[.int .i64 gf, .int .i64 gs, .int .i64 gl, .int .i64 gp, .slice ga gn gc] 28)).heap.size = w.heap.size + 1 by simp] at this
    exact this
  have HA : Hid (Below w.heap.size w ((w.alloc (.cells #[.int .i64 gf, .int .i64 gs, .int .i64 gl, .int .i64 gp, .slice ga gn gc] 28)).alloc (.cells #[.int .i64 kf, .int .i64 ks, .int .i64 kl, .int .i64 kp, .slice ka kn kc] 28))) := ext_alloc (ext_alloc (Below.refl _ _))
  go_enter Tryz.func20, Tryz.ntmps20
  as_aux_lemma =>
    go_upto_region 1 with (fail)
    generalize World.alloc (World.alloc w _) _ = w1 at HX HY HA ⊢
    obtain ⟨Y, hY⟩ : ∃ Y, Y = w.heap.size + 1 := ⟨_, rfl⟩
    obtain ⟨X, hX⟩ : ∃ X, X = w.heap.size := ⟨_, rfl⟩
    rw [← hY] at HY
    rw [← hX] at HX
    simp only [← hY]
    simp only [← hX]
    clear hX hY
    have x0 := HX.out.cell 0 rfl
    have x1 := HX.out.cell 1 rfl
    have x2 := HX.out.cell 2 rfl
    have x3 := HX.out.cell 3 rfl
    have x4 := HX.out.cell 4 rfl
    have y0 := HY.out.cell 0 rfl
    have y1 := HY.out.cell 1 rfl
    have y2 := HY.out.cell 2 rfl
    have y3 := HY.out.cell 3 rfl
    have y4 := HY.out.cell 4 rfl
    have hA : Below w1.heap.size w1 (w1.alloc (.cells #[.slice ga gn gc, .slice ka kn kc] 26)) := ext_alloc (Below.refl _ _)
    have HX3 := Lib.hid (HX.out.below hA)
    have HY3 := Lib.hid (HY.out.below hA)
    have HB3 := Lib.hid (ext_trans HA.out hA)
    have HPR := Lib.hid (prefixesR_any _ _ 2 2 _ (HPA2.out w1 HA.out))
    rw [HPT.out] at HPR
    clear hA HX HY HA HPA2 HPT
    as_aux_lemma =>
      go_wp2_with (first | (refine wpList_val rfl (bl_dbr0 _ (fun _ => rfl) _ _ 14 16 ga gn gc ka kn kc rfl rfl rfl) ?_))
      generalize w1.alloc (.cells #[.slice ga gn gc, .slice ka kn kc] 26) = w3 at HX3 HY3 HB3 HPR ⊢
      generalize w1.heap.size = V2 at HPR ⊢
      clear x0 x1 x2 x3 x4 y0 y1 y2 y3 y4
      refine HPR.out.mono ?_
      rintro e w5 ⟨v5, rfl, ho5, hb5⟩
      obtain ⟨va, vc, rfl⟩ := own_shape ho5
      have HO5 := Lib.hid ho5
      have HX5 := Lib.hid (HX3.out.below hb5)
      have HY5 := Lib.hid (HY3.out.below hb5)
      have HB5 := Lib.hid (ext_trans HB3.out hb5)
      have hkl := once_len K
      have hk2 := HP2.out.few
      generalize w3.heap.size = W4 at HO5
      clear ho5 hb5 HPR HX3 HY3 HB3
      as_aux_lemma =>
        go_wp2_with fail
        go_loopw [5, 20] (fun vo it wr => ∃ (i : Nat) (os : List Rate), i ≤ (onceL K).length ∧ it = .int .i64 i ∧ Hid (os = ((onceL K).take i).map (bestO grs krs)) ∧ Hid (wr.ownsRow w5.heap.size 51 3 vo os.length ((os.map Rate.cells).flatten)) ∧ Hid (Below w5.heap.size w5 wr)) (fun _ it _ => (onceL K).length - (intOf it).toNat)
        case atStart => exact ⟨0, [], Nat.zero_le _, rfl, rfl, World.ownsRow_nil _ _ _ _, Below.refl _ _⟩
        case round =>
          obtain ⟨i, os, hin, rfl, HU, HO, HB⟩ := hrel
          obtain ⟨vo, rfl⟩ : ∃ x : Value, x = u5 := ⟨_, rfl⟩
          have hol : os.length ≤ 100 := by
            rw [HU.out, List.length_map, List.length_take]
            omega
          by_cases hlt : i < (onceL K).length
          case neg =>
            have hii : i = (onceL K).length := by omega
            have e : os = R := by rw [HDV.out, HU.out, hii, List.take_length]
            have HWW : Hid (Calls Tryz.prog 46 #[vo] wr (RatesPost RR wr)) := HWO.out wr _ vo (by rw [← e]; exact HO.out)
            have HB6 := Lib.hid (ext_trans HB5.out HB.out)
            have hnn : ¬ (i : Int) < ((onceL K).length : Int) := by omega
            clear HU HO HB HDV HX5 HY5 HO5 HB5 HWO e hol
            as_aux_lemma =>
              go_wp2_with fail
              refine HWW.out.mono ?_
              rintro e w7 ⟨v7, rfl, ho7, hb7⟩
              have HE : Hid (RatesPost RR w (.returned v7) w7) := ⟨_, rfl, own_le ho7 HB6.out.size, ext_trans HB6.out hb7⟩
              clear ho7 hb7 HB6 HWW
              as_aux_lemma =>
                go_wp2_with fail
                go_ret
                exact HE.out
          have hlti : (i : Int) < ((onceL K).length : Int) := by omega
          have HOL := Lib.hid (own_keep HO5.out HB.out)
          obtain ⟨g, rfl, hg0, hg1⟩ := own_pos HOL.out (by omega)
          have c0 : wr.cell? ⟨g, i, none⟩ = some (.string ⟨((onceL K).getD i []).toArray⟩) := by
            have h9 := HOL.out.cellAt i (by omega)
            rw [h9]
            simp [encS, List.getD_eq_getElem?_getD, hlt]
          have hsl := HP2.out.at_ i
          have HST0 : Hid (((onceL K).take (i + 1)).map (bestO grs krs) = ((onceL K).take i).map (bestO grs krs) ++ [bestO grs krs ((onceL K).getD i [])]) := map_step _ _ [] i hlt
          generalize (onceL K).getD i [] = s at c0 hsl HST0
          have hch := best_choice (HMA.out s s.length) (HMB.out s s.length) (f1 := (rateOf grs s s.length).isSome) (f2 := (rateOf krs s s.length).isSome) none_rate none_rate
          have HST : Hid (((onceL K).take (i + 1)).map (bestO grs krs) = ((onceL K).take i).map (bestO grs krs) ++ [⟨s, (refBest ((rateOf grs s s.length).getD noRate) ((rateOf krs s s.length).getD noRate) (rateOf grs s s.length).isSome (rateOf krs s s.length).isSome).price, (refBest ((rateOf grs s s.length).getD noRate) ((rateOf krs s s.length).getD noRate) (rateOf grs s s.length).isSome (rateOf krs s s.length).isSome).closed⟩]) := by
            show _ = _
            rw [hch.1, hch.2]
            exact HST0.out
          clear hch
          have HR1 : Hid (∀ W, Below w5.heap.size w5 W → Calls Tryz.prog 53 #[.slice ga gn gc, .string ⟨s.toArray⟩] W (RatePost (rateOf grs s s.length) W)) := fun W hW => by
            rw [← ref_len HSA2.out s]
            exact rateFor_any W ga gn gc grs s (HRA.out.below (ext_trans HB5.out hW)) (by omega)
          have HR2 : Hid (∀ W, Below w5.heap.size w5 W → Calls Tryz.prog 53 #[.slice ka kn kc, .string ⟨s.toArray⟩] W (RatePost (rateOf krs s s.length) W)) := fun W hW => by
            rw [← ref_len HSB2.out s]
            exact rateFor_any W ka kn kc krs s (HRB.out.below (ext_trans HB5.out hW)) (by omega)
          generalize rateOf grs s s.length = o1 at HST HR1
          generalize rateOf krs s s.length = o2 at HST HR2
          clear HOL HST0
          have HX6 := Lib.hid (HX5.out.below HB.out)
          have HY6 := Lib.hid (HY5.out.below HB.out)
          have x0 := HX6.out.cell 0 rfl
          have x1 := HX6.out.cell 1 rfl
          have x2 := HX6.out.cell 2 rfl
          have x3 := HX6.out.cell 3 rfl
          have x4 := HX6.out.cell 4 rfl
          as_aux_lemma =>
            go_wp2_with fail
            refine (HR1.out wr HB.out).mono ?_
            intro e w7 hrp
            obtain ⟨hb7, rfl⟩ := ratePostD hrp
            generalize o1.getD noRate = r1 at HST
            generalize o1.isSome = f1 at HST
            obtain ⟨r1p, r1q, r1l⟩ := r1
            clear hrp HR1 x0 x1 x2 x3 x4 c0
            have HY7 := Lib.hid (HY6.out.below hb7)
            have HB7 := Lib.hid (ext_trans HB.out hb7)
            have HO7 := Lib.hid (own_keep HO.out hb7)
            clear hb7 HB HO HX6 HY6
            simp only
            have hA : Below w7.heap.size w7 (w7.alloc (.cells #[.string ⟨r1p.toArray⟩, .int .i64 r1q, .bool r1l] 51)) := ext_alloc (Below.refl _ _)
            have HP8 : Hid (Blk (w7.alloc (.cells #[.string ⟨r1p.toArray⟩, .int .i64 r1q, .bool r1l] 51)) w7.heap.size [.string ⟨r1p.toArray⟩, .int .i64 r1q, .bool r1l] 51) := Blk.new w7 [.string ⟨r1p.toArray⟩, .int .i64 r1q, .bool r1l] 51
            have HY8 := Lib.hid (HY7.out.below hA)
            have HB8 := Lib.hid (ext_trans HB7.out hA)
            have HO8 := Lib.hid (own_keep HO7.out hA)
            clear hA HY7 HB7 HO7
            as_aux_lemma =>
              go_upto_region 6 with (fail)
              generalize (w7.alloc (.cells #[.string ⟨r1p.toArray⟩, .int .i64 r1q, .bool r1l] 51)) = w8 at HP8 HY8 HB8 HO8 ⊢
              generalize w7.heap.size = P at HP8 ⊢
              have y0 := HY8.out.cell 0 rfl
              have y1 := HY8.out.cell 1 rfl
              have y2 := HY8.out.cell 2 rfl
              have y3 := HY8.out.cell 3 rfl
              have y4 := HY8.out.cell 4 rfl
              as_aux_lemma =>
                go_wp2_with fail
                refine (HR2.out w8 HB8.out).mono ?_
                intro e w3 hrp
                obtain ⟨hb3, rfl⟩ := ratePostD hrp
                generalize o2.getD noRate = r2 at HST
                generalize o2.isSome = f2 at HST
                obtain ⟨r2p, r2q, r2l⟩ := r2
                clear hrp HR2 y0 y1 y2 y3 y4
                have HP3 := Lib.hid (HP8.out.below hb3)
                have HB3 := Lib.hid (ext_trans HB8.out hb3)
                have HO3 := Lib.hid (own_keep HO8.out hb3)
                clear hb3 HB8 HO8 HP8 HY8
                simp only
                have hA : Below w3.heap.size w3 (w3.alloc (.cells #[.string ⟨r2p.toArray⟩, .int .i64 r2q, .bool r2l] 51)) := ext_alloc (Below.refl _ _)
                have HQ4 : Hid (Blk (w3.alloc (.cells #[.string ⟨r2p.toArray⟩, .int .i64 r2q, .bool r2l] 51)) w3.heap.size [.string ⟨r2p.toArray⟩, .int .i64 r2q, .bool r2l] 51) := Blk.new w3 [.string ⟨r2p.toArray⟩, .int .i64 r2q, .bool r2l] 51
                have HP4 := Lib.hid (HP3.out.below hA)
                have HB4 := Lib.hid (ext_trans HB3.out hA)
                have HO4 := Lib.hid (own_keep HO3.out hA)
                clear hA HP3 HB3 HO3
                as_aux_lemma =>
                  go_upto_region 7 with (fail)
                  generalize (w3.alloc (.cells #[.string ⟨r2p.toArray⟩, .int .i64 r2q, .bool r2l] 51)) = w4 at HQ4 HP4 HB4 HO4 ⊢
                  generalize w3.heap.size = Q at HQ4 ⊢
                  have p0 := HP4.out.cell 0 rfl
                  have p1 := HP4.out.cell 1 rfl
                  have p2 := HP4.out.cell 2 rfl
                  have hvo0 := own_before HO4.out (Nat.le_refl _)
                  have hwC0 : w5.heap.size ≤ w4.heap.size := HB4.out.size
                  have hA : Below w4.heap.size w4 (w4.alloc (.cells #[.string ⟨r1p.toArray⟩, .int .i64 r1q, .bool r1l] 51)) := ext_alloc (Below.refl _ _)
                  have HC10 : Hid (Blk (w4.alloc (.cells #[.string ⟨r1p.toArray⟩, .int .i64 r1q, .bool r1l] 51)) w4.heap.size [.string ⟨r1p.toArray⟩, .int .i64 r1q, .bool r1l] 51) := Blk.new w4 [.string ⟨r1p.toArray⟩, .int .i64 r1q, .bool r1l] 51
                  have HP10 := Lib.hid (HP4.out.below hA)
                  have HQ10 := Lib.hid (HQ4.out.below hA)
                  have HB10 := Lib.hid (ext_trans HB4.out hA)
                  have HO10 := Lib.hid (own_keep HO4.out hA)
                  clear hA HP4 HQ4 HB4 HO4
                  as_aux_lemma =>
                    go_upto_region 8 with (fail)
                    generalize (w4.alloc (.cells #[.string ⟨r1p.toArray⟩, .int .i64 r1q, .bool r1l] 51)) = w10 at HC10 HP10 HQ10 HB10 HO10 ⊢
                    generalize w4.heap.size = C at HC10 hvo0 hwC0 ⊢
                    have hvo := hvo0
                    have hwC := hwC0
                    clear hvo0 hwC0 p0 p1 p2
                    have p1 := HP10.out.cell 1 rfl
                    have p2 := HP10.out.cell 2 rfl
                    have q1 := HQ10.out.cell 1 rfl
                    have q2 := HQ10.out.cell 2 rfl
                    cases f1
                    case false =>
                      have hq : refBest ⟨r1p, r1q, r1l⟩ ⟨r2p, r2q, r2l⟩ false f2 = ⟨r2p, r2q, r2l⟩ := by unfold refBest; rfl
                      have HN : Hid (os ++ [⟨s, r2q, r2l⟩] = ((onceL K).take (i + 1)).map (bestO grs krs)) := by
                        show _ = _
                        rw [HST.out, HU.out, hq]
                      clear HST HU hq HP10
                      have HRQ := Lib.hid HQ10.out.range
                      have HTH : Hid (w10.there C 0 3) := HC10.out.th 3 (Nat.le_refl 3)
                      have HC11 := Lib.hid (HC10.out.set3 (.string ⟨r2p.toArray⟩) (.int .i64 r2q) (.bool r2l))
                      have HB11 := Lib.hid (below_put hwC HB10.out [.string ⟨r2p.toArray⟩, .int .i64 r2q, .bool r2l])
                      have HO11 := Lib.hid (own_gb HO10.out (setCells_gb C [.string ⟨r2p.toArray⟩, .int .i64 r2q, .bool r2l] 0) (fun b h1 h2 => by injection h2 with h2; subst h2; exact hvo h1))
                      clear HB10 HO10 HC10
                      as_aux_lemma =>
                        go_upto_region 9 with (fail)
                        clear p1 p2 q1 q2
                        go_wp2_with (first | (refine wpList_load_mid rfl 51 (.tmp 10) rfl Q 0 rfl [.string ⟨r2p.toArray⟩, .int .i64 r2q, .bool r2l] _ HRQ.out Tryz.underlying51 rfl Tryz.rateSz ?_) | (refine wpList_store_mid rfl 51 (.tmp 12) (.tmp 67) rfl C 0 #[.string ⟨r2p.toArray⟩, .int .i64 r2q, .bool r2l] rfl rfl HTH.out Tryz.rateSz (by simp [Value.oneCell']) ?_; generalize World.setCells w10 C 0 _ = w11 at HC11 HB11 HO11 ⊢; refine Hid.out ?_))
                        refine Lib.hid ?_
                        go_upto_region 10 with (fail)
                        clear HTH HRQ
                        have c0 := HC11.out.cell 0 rfl
                        have cf := HC11.out.fr 0
                        have HC12 := Lib.hid (HC11.out.put 0 (.string ⟨s.toArray⟩))
                        have HB12 := Lib.hid (HB11.out.setCell (p := ⟨C, 0, none⟩) hwC (.string ⟨s.toArray⟩))
                        have HO12 := Lib.hid (own_set (p := ⟨C, 0, none⟩) (u := .string ⟨s.toArray⟩) HO11.out hvo)
                        clear HC11 HB11 HO11
                        as_aux_lemma =>
                          go_upto_region 11 with (fail)
                          clear c0 cf
                          generalize World.setCell w11 _ _ = w9 at HC12 HB12 HO12 ⊢
                          have HRC : Hid (w9.rangeAt C 0 [.string ⟨s.toArray⟩, .int .i64 r2q, .bool r2l]) := HC12.out.range
                          have HB9 := HB12
                          have HO9 := HO12
                          clear HC12 HB12 HO12 HQ10
                          have hoz := HO9.out
                          obtain ⟨oa, oc, rfl⟩ := own_shape hoz
                          have hrow : w5.heap.size ≤ w9.heap.size := HB9.out.size
                          have HOA : Hid (World.ownsRow (w9.alloc (.cells #[.string ⟨s.toArray⟩, .int .i64 r2q, .bool r2l] 51)) w5.heap.size 51 3 (.slice oa os.length oc) os.length ((os.map Rate.cells).flatten)) := World.ownsRow.alloc hoz (.cells #[.string ⟨s.toArray⟩, .int .i64 r2q, .bool r2l] 51)
                          have HNA : Hid (Blk (w9.alloc (.cells #[.string ⟨s.toArray⟩, .int .i64 r2q, .bool r2l] 51)) w9.heap.size [.string ⟨s.toArray⟩, .int .i64 r2q, .bool r2l] 51) := Blk.new w9 [.string ⟨s.toArray⟩, .int .i64 r2q, .bool r2l] 51
                          have hvw : ∀ b, (Value.slice oa os.length oc).ownBlock = some b → w5.heap.size ≤ b := fun b e => (hoz.lt b e).1
                          clear hoz
                          as_aux_lemma =>
                            go_wp2_with (first | (refine wpList_load_mid rfl 51 (.tmp 12) rfl C 0 rfl [.string ⟨s.toArray⟩, .int .i64 r2q, .bool r2l] _ HRC.out Tryz.underlying51 rfl Tryz.rateSz ?_) | (refine wpList_val rfl (bl_dbr1 _ (fun _ => rfl) _ _ 71 ⟨s.toArray⟩ r2q r2l rfl rfl) ?_) | (at_builtin; go_loud (refine wpList_append_own_at _ rfl (.tmp 70) (.tmp 72) 26 rfl w5.heap.size 51 i1 _ 3 32 Tryz.underlying26 hi1 hy0 hy1 hy2 rfl (by omega) (.slice oa os.length oc) os.length _ rfl HOA.out ⟨w9.heap.size, 0, none⟩ 1 1 [.string ⟨s.toArray⟩, .int .i64 r2q, .bool r2l] rfl rfl (fun j u hj => by rw [add0]; exact HNA.out.cell j hj) (by simp [Value.oneCell']) (by simp only [maxLen]; omega) (by omega) (by simp; omega) ?_); intro v12 w12 hown12 hgr12 _ hat12; have HQ1 := Lib.hid hown12; have HQ2 := Lib.hid hgr12; clear hown12 hgr12 hat12 HOA HNA; refine Hid.out ?_))
                            refine Lib.hid ?_
                            have HO12 : Hid (w12.ownsRow w5.heap.size 51 3 v12 (os ++ [(⟨s, r2q, r2l⟩ : Rate)]).length (((os ++ [(⟨s, r2q, r2l⟩ : Rate)]).map Rate.cells).flatten)) := by
                              show World.ownsRow _ _ _ _ _ _ _
                              rw [rcells_snoc, List.length_append]
                              exact HQ1.out
                            have HB12 : Hid (Below w5.heap.size w5 w12) := HB9.out.trans (upto_grown HQ2.out hrow hvw)
                            clear HQ1 HQ2 HO9 HB9
                            as_aux_lemma =>
                              go_wp2_with fail
                              go_roundw
                              case rel => exact ⟨i + 1, os ++ [(⟨s, r2q, r2l⟩ : Rate)], by omega, by go_num, HN.out, HO12.out, HB12.out⟩
                              case measure => simp [intOf]; omega
                    cases f2
                    case false =>
                      have hq : refBest ⟨r1p, r1q, r1l⟩ ⟨r2p, r2q, r2l⟩ true false = ⟨r1p, r1q, r1l⟩ := by unfold refBest; rfl
                      have HN : Hid (os ++ [⟨s, r1q, r1l⟩] = ((onceL K).take (i + 1)).map (bestO grs krs)) := by
                        show _ = _
                        rw [HST.out, HU.out, hq]
                      clear HST HU hq HP10
                      have HC11 := HC10
                      have HB11 := HB10
                      have HO11 := HO10
                      obtain ⟨w11, rfl⟩ : ∃ x : World, x = w10 := ⟨_, rfl⟩
                      clear HC10 HB10 HO10
                      as_aux_lemma =>
                        go_upto_region 10 with (fail)
                        clear p1 p2 q1 q2
                        have c0 := HC11.out.cell 0 rfl
                        have cf := HC11.out.fr 0
                        have HC12 := Lib.hid (HC11.out.put 0 (.string ⟨s.toArray⟩))
                        have HB12 := Lib.hid (HB11.out.setCell (p := ⟨C, 0, none⟩) hwC (.string ⟨s.toArray⟩))
                        have HO12 := Lib.hid (own_set (p := ⟨C, 0, none⟩) (u := .string ⟨s.toArray⟩) HO11.out hvo)
                        clear HC11 HB11 HO11
                        as_aux_lemma =>
                          go_upto_region 11 with (fail)
                          clear c0 cf
                          generalize World.setCell w11 _ _ = w9 at HC12 HB12 HO12 ⊢
                          have HRC : Hid (w9.rangeAt C 0 [.string ⟨s.toArray⟩, .int .i64 r1q, .bool r1l]) := HC12.out.range
                          have HB9 := HB12
                          have HO9 := HO12
                          clear HC12 HB12 HO12 HQ10
                          have hoz := HO9.out
                          obtain ⟨oa, oc, rfl⟩ := own_shape hoz
                          have hrow : w5.heap.size ≤ w9.heap.size := HB9.out.size
                          have HOA : Hid (World.ownsRow (w9.alloc (.cells #[.string ⟨s.toArray⟩, .int .i64 r1q, .bool r1l] 51)) w5.heap.size 51 3 (.slice oa os.length oc) os.length ((os.map Rate.cells).flatten)) := World.ownsRow.alloc hoz (.cells #[.string ⟨s.toArray⟩, .int .i64 r1q, .bool r1l] 51)
                          have HNA : Hid (Blk (w9.alloc (.cells #[.string ⟨s.toArray⟩, .int .i64 r1q, .bool r1l] 51)) w9.heap.size [.string ⟨s.toArray⟩, .int .i64 r1q, .bool r1l] 51) := Blk.new w9 [.string ⟨s.toArray⟩, .int .i64 r1q, .bool r1l] 51
                          have hvw : ∀ b, (Value.slice oa os.length oc).ownBlock = some b → w5.heap.size ≤ b := fun b e => (hoz.lt b e).1
                          clear hoz
                          as_aux_lemma =>
                            go_wp2_with (first | (refine wpList_load_mid rfl 51 (.tmp 12) rfl C 0 rfl [.string ⟨s.toArray⟩, .int .i64 r1q, .bool r1l] _ HRC.out Tryz.underlying51 rfl Tryz.rateSz ?_) | (refine wpList_val rfl (bl_dbr1 _ (fun _ => rfl) _ _ 71 ⟨s.toArray⟩ r1q r1l rfl rfl) ?_) | (at_builtin; go_loud (refine wpList_append_own_at _ rfl (.tmp 70) (.tmp 72) 26 rfl w5.heap.size 51 i1 _ 3 32 Tryz.underlying26 hi1 hy0 hy1 hy2 rfl (by omega) (.slice oa os.length oc) os.length _ rfl HOA.out ⟨w9.heap.size, 0, none⟩ 1 1 [.string ⟨s.toArray⟩, .int .i64 r1q, .bool r1l] rfl rfl (fun j u hj => by rw [add0]; exact HNA.out.cell j hj) (by simp [Value.oneCell']) (by simp only [maxLen]; omega) (by omega) (by simp; omega) ?_); intro v12 w12 hown12 hgr12 _ hat12; have HQ1 := Lib.hid hown12; have HQ2 := Lib.hid hgr12; clear hown12 hgr12 hat12 HOA HNA; refine Hid.out ?_))
                            refine Lib.hid ?_
                            have HO12 : Hid (w12.ownsRow w5.heap.size 51 3 v12 (os ++ [(⟨s, r1q, r1l⟩ : Rate)]).length (((os ++ [(⟨s, r1q, r1l⟩ : Rate)]).map Rate.cells).flatten)) := by
                              show World.ownsRow _ _ _ _ _ _ _
                              rw [rcells_snoc, List.length_append]
                              exact HQ1.out
                            have HB12 : Hid (Below w5.heap.size w5 w12) := HB9.out.trans (upto_grown HQ2.out hrow hvw)
                            clear HQ1 HQ2 HO9 HB9
                            as_aux_lemma =>
                              go_wp2_with fail
                              go_roundw
                              case rel => exact ⟨i + 1, os ++ [(⟨s, r1q, r1l⟩ : Rate)], by omega, by go_num, HN.out, HO12.out, HB12.out⟩
                              case measure => simp [intOf]; omega
                    cases r1l
                    case false =>
                      cases r2l
                      case false =>
                        by_cases hqq : r2q < r1q
                        · skip
                          have hq : refBest ⟨r1p, r1q, false⟩ ⟨r2p, r2q, false⟩ true true = ⟨r2p, r2q, false⟩ := by unfold refBest; simp [hqq]
                          have HN : Hid (os ++ [⟨s, r2q, false⟩] = ((onceL K).take (i + 1)).map (bestO grs krs)) := by
                            show _ = _
                            rw [HST.out, HU.out, hq]
                          clear HST HU hq HP10
                          have HRQ := Lib.hid HQ10.out.range
                          have HTH : Hid (w10.there C 0 3) := HC10.out.th 3 (Nat.le_refl 3)
                          have HC11 := Lib.hid (HC10.out.set3 (.string ⟨r2p.toArray⟩) (.int .i64 r2q) (.bool false))
                          have HB11 := Lib.hid (below_put hwC HB10.out [.string ⟨r2p.toArray⟩, .int .i64 r2q, .bool false])
                          have HO11 := Lib.hid (own_gb HO10.out (setCells_gb C [.string ⟨r2p.toArray⟩, .int .i64 r2q, .bool false] 0) (fun b h1 h2 => by injection h2 with h2; subst h2; exact hvo h1))
                          clear HB10 HO10 HC10
                          as_aux_lemma =>
                            go_upto_region 9 with (fail)
                            clear p1 p2 q1 q2
                            go_wp2_with (first | (refine wpList_load_mid rfl 51 (.tmp 10) rfl Q 0 rfl [.string ⟨r2p.toArray⟩, .int .i64 r2q, .bool false] _ HRQ.out Tryz.underlying51 rfl Tryz.rateSz ?_) | (refine wpList_store_mid rfl 51 (.tmp 12) (.tmp 67) rfl C 0 #[.string ⟨r2p.toArray⟩, .int .i64 r2q, .bool false] rfl rfl HTH.out Tryz.rateSz (by simp [Value.oneCell']) ?_; generalize World.setCells w10 C 0 _ = w11 at HC11 HB11 HO11 ⊢; refine Hid.out ?_))
                            refine Lib.hid ?_
                            go_upto_region 10 with (fail)
                            clear HTH HRQ
                            have c0 := HC11.out.cell 0 rfl
                            have cf := HC11.out.fr 0
                            have HC12 := Lib.hid (HC11.out.put 0 (.string ⟨s.toArray⟩))
                            have HB12 := Lib.hid (HB11.out.setCell (p := ⟨C, 0, none⟩) hwC (.string ⟨s.toArray⟩))
                            have HO12 := Lib.hid (own_set (p := ⟨C, 0, none⟩) (u := .string ⟨s.toArray⟩) HO11.out hvo)
                            clear HC11 HB11 HO11
                            as_aux_lemma =>
                              go_upto_region 11 with (fail)
                              clear c0 cf
                              generalize World.setCell w11 _ _ = w9 at HC12 HB12 HO12 ⊢
                              have HRC : Hid (w9.rangeAt C 0 [.string ⟨s.toArray⟩, .int .i64 r2q, .bool false]) := HC12.out.range
                              have HB9 := HB12
                              have HO9 := HO12
                              clear HC12 HB12 HO12 HQ10
                              have hoz := HO9.out
                              obtain ⟨oa, oc, rfl⟩ := own_shape hoz
                              have hrow : w5.heap.size ≤ w9.heap.size := HB9.out.size
                              have HOA : Hid (World.ownsRow (w9.alloc (.cells #[.string ⟨s.toArray⟩, .int .i64 r2q, .bool false] 51)) w5.heap.size 51 3 (.slice oa os.length oc) os.length ((os.map Rate.cells).flatten)) := World.ownsRow.alloc hoz (.cells #[.string ⟨s.toArray⟩, .int .i64 r2q, .bool false] 51)
                              have HNA : Hid (Blk (w9.alloc (.cells #[.string ⟨s.toArray⟩, .int .i64 r2q, .bool false] 51)) w9.heap.size [.string ⟨s.toArray⟩, .int .i64 r2q, .bool false] 51) := Blk.new w9 [.string ⟨s.toArray⟩, .int .i64 r2q, .bool false] 51
                              have hvw : ∀ b, (Value.slice oa os.length oc).ownBlock = some b → w5.heap.size ≤ b := fun b e => (hoz.lt b e).1
                              clear hoz
                              as_aux_lemma =>
                                go_wp2_with (first | (refine wpList_load_mid rfl 51 (.tmp 12) rfl C 0 rfl [.string ⟨s.toArray⟩, .int .i64 r2q, .bool false] _ HRC.out Tryz.underlying51 rfl Tryz.rateSz ?_) | (refine wpList_val rfl (bl_dbr1 _ (fun _ => rfl) _ _ 71 ⟨s.toArray⟩ r2q false rfl rfl) ?_) | (at_builtin; go_loud (refine wpList_append_own_at _ rfl (.tmp 70) (.tmp 72) 26 rfl w5.heap.size 51 i1 _ 3 32 Tryz.underlying26 hi1 hy0 hy1 hy2 rfl (by omega) (.slice oa os.length oc) os.length _ rfl HOA.out ⟨w9.heap.size, 0, none⟩ 1 1 [.string ⟨s.toArray⟩, .int .i64 r2q, .bool false] rfl rfl (fun j u hj => by rw [add0]; exact HNA.out.cell j hj) (by simp [Value.oneCell']) (by simp only [maxLen]; omega) (by omega) (by simp; omega) ?_); intro v12 w12 hown12 hgr12 _ hat12; have HQ1 := Lib.hid hown12; have HQ2 := Lib.hid hgr12; clear hown12 hgr12 hat12 HOA HNA; refine Hid.out ?_))
                                refine Lib.hid ?_
                                have HO12 : Hid (w12.ownsRow w5.heap.size 51 3 v12 (os ++ [(⟨s, r2q, false⟩ : Rate)]).length (((os ++ [(⟨s, r2q, false⟩ : Rate)]).map Rate.cells).flatten)) := by
                                  show World.ownsRow _ _ _ _ _ _ _
                                  rw [rcells_snoc, List.length_append]
                                  exact HQ1.out
                                have HB12 : Hid (Below w5.heap.size w5 w12) := HB9.out.trans (upto_grown HQ2.out hrow hvw)
                                clear HQ1 HQ2 HO9 HB9
                                as_aux_lemma =>
                                  go_wp2_with fail
                                  go_roundw
                                  case rel => exact ⟨i + 1, os ++ [(⟨s, r2q, false⟩ : Rate)], by omega, by go_num, HN.out, HO12.out, HB12.out⟩
                                  case measure => simp [intOf]; omega
                        have hq : refBest ⟨r1p, r1q, false⟩ ⟨r2p, r2q, false⟩ true true = ⟨r1p, r1q, false⟩ := by unfold refBest; simp [hqq]
                        have HN : Hid (os ++ [⟨s, r1q, false⟩] = ((onceL K).take (i + 1)).map (bestO grs krs)) := by
                          show _ = _
                          rw [HST.out, HU.out, hq]
                        clear HST HU hq HP10
                        have HC11 := HC10
                        have HB11 := HB10
                        have HO11 := HO10
                        obtain ⟨w11, rfl⟩ : ∃ x : World, x = w10 := ⟨_, rfl⟩
                        clear HC10 HB10 HO10
                        as_aux_lemma =>
                          go_upto_region 10 with (fail)
                          clear p1 p2 q1 q2
                          have c0 := HC11.out.cell 0 rfl
                          have cf := HC11.out.fr 0
                          have HC12 := Lib.hid (HC11.out.put 0 (.string ⟨s.toArray⟩))
                          have HB12 := Lib.hid (HB11.out.setCell (p := ⟨C, 0, none⟩) hwC (.string ⟨s.toArray⟩))
                          have HO12 := Lib.hid (own_set (p := ⟨C, 0, none⟩) (u := .string ⟨s.toArray⟩) HO11.out hvo)
                          clear HC11 HB11 HO11
                          as_aux_lemma =>
                            go_upto_region 11 with (fail)
                            clear c0 cf
                            generalize World.setCell w11 _ _ = w9 at HC12 HB12 HO12 ⊢
                            have HRC : Hid (w9.rangeAt C 0 [.string ⟨s.toArray⟩, .int .i64 r1q, .bool false]) := HC12.out.range
                            have HB9 := HB12
                            have HO9 := HO12
                            clear HC12 HB12 HO12 HQ10
                            have hoz := HO9.out
                            obtain ⟨oa, oc, rfl⟩ := own_shape hoz
                            have hrow : w5.heap.size ≤ w9.heap.size := HB9.out.size
                            have HOA : Hid (World.ownsRow (w9.alloc (.cells #[.string ⟨s.toArray⟩, .int .i64 r1q, .bool false] 51)) w5.heap.size 51 3 (.slice oa os.length oc) os.length ((os.map Rate.cells).flatten)) := World.ownsRow.alloc hoz (.cells #[.string ⟨s.toArray⟩, .int .i64 r1q, .bool false] 51)
                            have HNA : Hid (Blk (w9.alloc (.cells #[.string ⟨s.toArray⟩, .int .i64 r1q, .bool false] 51)) w9.heap.size [.string ⟨s.toArray⟩, .int .i64 r1q, .bool false] 51) := Blk.new w9 [.string ⟨s.toArray⟩, .int .i64 r1q, .bool false] 51
                            have hvw : ∀ b, (Value.slice oa os.length oc).ownBlock = some b → w5.heap.size ≤ b := fun b e => (hoz.lt b e).1
                            clear hoz
                            as_aux_lemma =>
                              go_wp2_with (first | (refine wpList_load_mid rfl 51 (.tmp 12) rfl C 0 rfl [.string ⟨s.toArray⟩, .int .i64 r1q, .bool false] _ HRC.out Tryz.underlying51 rfl Tryz.rateSz ?_) | (refine wpList_val rfl (bl_dbr1 _ (fun _ => rfl) _ _ 71 ⟨s.toArray⟩ r1q false rfl rfl) ?_) | (at_builtin; go_loud (refine wpList_append_own_at _ rfl (.tmp 70) (.tmp 72) 26 rfl w5.heap.size 51 i1 _ 3 32 Tryz.underlying26 hi1 hy0 hy1 hy2 rfl (by omega) (.slice oa os.length oc) os.length _ rfl HOA.out ⟨w9.heap.size, 0, none⟩ 1 1 [.string ⟨s.toArray⟩, .int .i64 r1q, .bool false] rfl rfl (fun j u hj => by rw [add0]; exact HNA.out.cell j hj) (by simp [Value.oneCell']) (by simp only [maxLen]; omega) (by omega) (by simp; omega) ?_); intro v12 w12 hown12 hgr12 _ hat12; have HQ1 := Lib.hid hown12; have HQ2 := Lib.hid hgr12; clear hown12 hgr12 hat12 HOA HNA; refine Hid.out ?_))
                              refine Lib.hid ?_
                              have HO12 : Hid (w12.ownsRow w5.heap.size 51 3 v12 (os ++ [(⟨s, r1q, false⟩ : Rate)]).length (((os ++ [(⟨s, r1q, false⟩ : Rate)]).map Rate.cells).flatten)) := by
                                show World.ownsRow _ _ _ _ _ _ _
                                rw [rcells_snoc, List.length_append]
                                exact HQ1.out
                              have HB12 : Hid (Below w5.heap.size w5 w12) := HB9.out.trans (upto_grown HQ2.out hrow hvw)
                              clear HQ1 HQ2 HO9 HB9
                              as_aux_lemma =>
                                go_wp2_with fail
                                go_roundw
                                case rel => exact ⟨i + 1, os ++ [(⟨s, r1q, false⟩ : Rate)], by omega, by go_num, HN.out, HO12.out, HB12.out⟩
                                case measure => simp [intOf]; omega
                      have hq : refBest ⟨r1p, r1q, false⟩ ⟨r2p, r2q, true⟩ true true = ⟨r1p, r1q, false⟩ := by unfold refBest; simp
                      have HN : Hid (os ++ [⟨s, r1q, false⟩] = ((onceL K).take (i + 1)).map (bestO grs krs)) := by
                        show _ = _
                        rw [HST.out, HU.out, hq]
                      clear HST HU hq HP10
                      have HC11 := HC10
                      have HB11 := HB10
                      have HO11 := HO10
                      obtain ⟨w11, rfl⟩ : ∃ x : World, x = w10 := ⟨_, rfl⟩
                      clear HC10 HB10 HO10
                      as_aux_lemma =>
                        go_upto_region 10 with (fail)
                        clear p1 p2 q1 q2
                        have c0 := HC11.out.cell 0 rfl
                        have cf := HC11.out.fr 0
                        have HC12 := Lib.hid (HC11.out.put 0 (.string ⟨s.toArray⟩))
                        have HB12 := Lib.hid (HB11.out.setCell (p := ⟨C, 0, none⟩) hwC (.string ⟨s.toArray⟩))
                        have HO12 := Lib.hid (own_set (p := ⟨C, 0, none⟩) (u := .string ⟨s.toArray⟩) HO11.out hvo)
                        clear HC11 HB11 HO11
                        as_aux_lemma =>
                          go_upto_region 11 with (fail)
                          clear c0 cf
                          generalize World.setCell w11 _ _ = w9 at HC12 HB12 HO12 ⊢
                          have HRC : Hid (w9.rangeAt C 0 [.string ⟨s.toArray⟩, .int .i64 r1q, .bool false]) := HC12.out.range
                          have HB9 := HB12
                          have HO9 := HO12
                          clear HC12 HB12 HO12 HQ10
                          have hoz := HO9.out
                          obtain ⟨oa, oc, rfl⟩ := own_shape hoz
                          have hrow : w5.heap.size ≤ w9.heap.size := HB9.out.size
                          have HOA : Hid (World.ownsRow (w9.alloc (.cells #[.string ⟨s.toArray⟩, .int .i64 r1q, .bool false] 51)) w5.heap.size 51 3 (.slice oa os.length oc) os.length ((os.map Rate.cells).flatten)) := World.ownsRow.alloc hoz (.cells #[.string ⟨s.toArray⟩, .int .i64 r1q, .bool false] 51)
                          have HNA : Hid (Blk (w9.alloc (.cells #[.string ⟨s.toArray⟩, .int .i64 r1q, .bool false] 51)) w9.heap.size [.string ⟨s.toArray⟩, .int .i64 r1q, .bool false] 51) := Blk.new w9 [.string ⟨s.toArray⟩, .int .i64 r1q, .bool false] 51
                          have hvw : ∀ b, (Value.slice oa os.length oc).ownBlock = some b → w5.heap.size ≤ b := fun b e => (hoz.lt b e).1
                          clear hoz
                          as_aux_lemma =>
                            go_wp2_with (first | (refine wpList_load_mid rfl 51 (.tmp 12) rfl C 0 rfl [.string ⟨s.toArray⟩, .int .i64 r1q, .bool false] _ HRC.out Tryz.underlying51 rfl Tryz.rateSz ?_) | (refine wpList_val rfl (bl_dbr1 _ (fun _ => rfl) _ _ 71 ⟨s.toArray⟩ r1q false rfl rfl) ?_) | (at_builtin; go_loud (refine wpList_append_own_at _ rfl (.tmp 70) (.tmp 72) 26 rfl w5.heap.size 51 i1 _ 3 32 Tryz.underlying26 hi1 hy0 hy1 hy2 rfl (by omega) (.slice oa os.length oc) os.length _ rfl HOA.out ⟨w9.heap.size, 0, none⟩ 1 1 [.string ⟨s.toArray⟩, .int .i64 r1q, .bool false] rfl rfl (fun j u hj => by rw [add0]; exact HNA.out.cell j hj) (by simp [Value.oneCell']) (by simp only [maxLen]; omega) (by omega) (by simp; omega) ?_); intro v12 w12 hown12 hgr12 _ hat12; have HQ1 := Lib.hid hown12; have HQ2 := Lib.hid hgr12; clear hown12 hgr12 hat12 HOA HNA; refine Hid.out ?_))
                            refine Lib.hid ?_
                            have HO12 : Hid (w12.ownsRow w5.heap.size 51 3 v12 (os ++ [(⟨s, r1q, false⟩ : Rate)]).length (((os ++ [(⟨s, r1q, false⟩ : Rate)]).map Rate.cells).flatten)) := by
                              show World.ownsRow _ _ _ _ _ _ _
                              rw [rcells_snoc, List.length_append]
                              exact HQ1.out
                            have HB12 : Hid (Below w5.heap.size w5 w12) := HB9.out.trans (upto_grown HQ2.out hrow hvw)
                            clear HQ1 HQ2 HO9 HB9
                            as_aux_lemma =>
                              go_wp2_with fail
                              go_roundw
                              case rel => exact ⟨i + 1, os ++ [(⟨s, r1q, false⟩ : Rate)], by omega, by go_num, HN.out, HO12.out, HB12.out⟩
                              case measure => simp [intOf]; omega
                    cases r2l
                    case false =>
                      have hq : refBest ⟨r1p, r1q, true⟩ ⟨r2p, r2q, false⟩ true true = ⟨r2p, r2q, false⟩ := by unfold refBest; simp
                      have HN : Hid (os ++ [⟨s, r2q, false⟩] = ((onceL K).take (i + 1)).map (bestO grs krs)) := by
                        show _ = _
                        rw [HST.out, HU.out, hq]
                      clear HST HU hq HP10
                      have HRQ := Lib.hid HQ10.out.range
                      have HTH : Hid (w10.there C 0 3) := HC10.out.th 3 (Nat.le_refl 3)
                      have HC11 := Lib.hid (HC10.out.set3 (.string ⟨r2p.toArray⟩) (.int .i64 r2q) (.bool false))
                      have HB11 := Lib.hid (below_put hwC HB10.out [.string ⟨r2p.toArray⟩, .int .i64 r2q, .bool false])
                      have HO11 := Lib.hid (own_gb HO10.out (setCells_gb C [.string ⟨r2p.toArray⟩, .int .i64 r2q, .bool false] 0) (fun b h1 h2 => by injection h2 with h2; subst h2; exact hvo h1))
                      clear HB10 HO10 HC10
                      as_aux_lemma =>
                        go_upto_region 9 with (fail)
                        clear p1 p2 q1 q2
                        go_wp2_with (first | (refine wpList_load_mid rfl 51 (.tmp 10) rfl Q 0 rfl [.string ⟨r2p.toArray⟩, .int .i64 r2q, .bool false] _ HRQ.out Tryz.underlying51 rfl Tryz.rateSz ?_) | (refine wpList_store_mid rfl 51 (.tmp 12) (.tmp 67) rfl C 0 #[.string ⟨r2p.toArray⟩, .int .i64 r2q, .bool false] rfl rfl HTH.out Tryz.rateSz (by simp [Value.oneCell']) ?_; generalize World.setCells w10 C 0 _ = w11 at HC11 HB11 HO11 ⊢; refine Hid.out ?_))
                        refine Lib.hid ?_
                        go_upto_region 10 with (fail)
                        clear HTH HRQ
                        have c0 := HC11.out.cell 0 rfl
                        have cf := HC11.out.fr 0
                        have HC12 := Lib.hid (HC11.out.put 0 (.string ⟨s.toArray⟩))
                        have HB12 := Lib.hid (HB11.out.setCell (p := ⟨C, 0, none⟩) hwC (.string ⟨s.toArray⟩))
                        have HO12 := Lib.hid (own_set (p := ⟨C, 0, none⟩) (u := .string ⟨s.toArray⟩) HO11.out hvo)
                        clear HC11 HB11 HO11
                        as_aux_lemma =>
                          go_upto_region 11 with (fail)
                          clear c0 cf
                          generalize World.setCell w11 _ _ = w9 at HC12 HB12 HO12 ⊢
                          have HRC : Hid (w9.rangeAt C 0 [.string ⟨s.toArray⟩, .int .i64 r2q, .bool false]) := HC12.out.range
                          have HB9 := HB12
                          have HO9 := HO12
                          clear HC12 HB12 HO12 HQ10
                          have hoz := HO9.out
                          obtain ⟨oa, oc, rfl⟩ := own_shape hoz
                          have hrow : w5.heap.size ≤ w9.heap.size := HB9.out.size
                          have HOA : Hid (World.ownsRow (w9.alloc (.cells #[.string ⟨s.toArray⟩, .int .i64 r2q, .bool false] 51)) w5.heap.size 51 3 (.slice oa os.length oc) os.length ((os.map Rate.cells).flatten)) := World.ownsRow.alloc hoz (.cells #[.string ⟨s.toArray⟩, .int .i64 r2q, .bool false] 51)
                          have HNA : Hid (Blk (w9.alloc (.cells #[.string ⟨s.toArray⟩, .int .i64 r2q, .bool false] 51)) w9.heap.size [.string ⟨s.toArray⟩, .int .i64 r2q, .bool false] 51) := Blk.new w9 [.string ⟨s.toArray⟩, .int .i64 r2q, .bool false] 51
                          have hvw : ∀ b, (Value.slice oa os.length oc).ownBlock = some b → w5.heap.size ≤ b := fun b e => (hoz.lt b e).1
                          clear hoz
                          as_aux_lemma =>
                            go_wp2_with (first | (refine wpList_load_mid rfl 51 (.tmp 12) rfl C 0 rfl [.string ⟨s.toArray⟩, .int .i64 r2q, .bool false] _ HRC.out Tryz.underlying51 rfl Tryz.rateSz ?_) | (refine wpList_val rfl (bl_dbr1 _ (fun _ => rfl) _ _ 71 ⟨s.toArray⟩ r2q false rfl rfl) ?_) | (at_builtin; go_loud (refine wpList_append_own_at _ rfl (.tmp 70) (.tmp 72) 26 rfl w5.heap.size 51 i1 _ 3 32 Tryz.underlying26 hi1 hy0 hy1 hy2 rfl (by omega) (.slice oa os.length oc) os.length _ rfl HOA.out ⟨w9.heap.size, 0, none⟩ 1 1 [.string ⟨s.toArray⟩, .int .i64 r2q, .bool false] rfl rfl (fun j u hj => by rw [add0]; exact HNA.out.cell j hj) (by simp [Value.oneCell']) (by simp only [maxLen]; omega) (by omega) (by simp; omega) ?_); intro v12 w12 hown12 hgr12 _ hat12; have HQ1 := Lib.hid hown12; have HQ2 := Lib.hid hgr12; clear hown12 hgr12 hat12 HOA HNA; refine Hid.out ?_))
                            refine Lib.hid ?_
                            have HO12 : Hid (w12.ownsRow w5.heap.size 51 3 v12 (os ++ [(⟨s, r2q, false⟩ : Rate)]).length (((os ++ [(⟨s, r2q, false⟩ : Rate)]).map Rate.cells).flatten)) := by
                              show World.ownsRow _ _ _ _ _ _ _
                              rw [rcells_snoc, List.length_append]
                              exact HQ1.out
                            have HB12 : Hid (Below w5.heap.size w5 w12) := HB9.out.trans (upto_grown HQ2.out hrow hvw)
                            clear HQ1 HQ2 HO9 HB9
                            as_aux_lemma =>
                              go_wp2_with fail
                              go_roundw
                              case rel => exact ⟨i + 1, os ++ [(⟨s, r2q, false⟩ : Rate)], by omega, by go_num, HN.out, HO12.out, HB12.out⟩
                              case measure => simp [intOf]; omega
                    by_cases hqq : r2q < r1q
                    · skip
                      have hq : refBest ⟨r1p, r1q, true⟩ ⟨r2p, r2q, true⟩ true true = ⟨r2p, r2q, true⟩ := by unfold refBest; simp [hqq]
                      have HN : Hid (os ++ [⟨s, r2q, true⟩] = ((onceL K).take (i + 1)).map (bestO grs krs)) := by
                        show _ = _
                        rw [HST.out, HU.out, hq]
                      clear HST HU hq HP10
                      have HRQ := Lib.hid HQ10.out.range
                      have HTH : Hid (w10.there C 0 3) := HC10.out.th 3 (Nat.le_refl 3)
                      have HC11 := Lib.hid (HC10.out.set3 (.string ⟨r2p.toArray⟩) (.int .i64 r2q) (.bool true))
                      have HB11 := Lib.hid (below_put hwC HB10.out [.string ⟨r2p.toArray⟩, .int .i64 r2q, .bool true])
                      have HO11 := Lib.hid (own_gb HO10.out (setCells_gb C [.string ⟨r2p.toArray⟩, .int .i64 r2q, .bool true] 0) (fun b h1 h2 => by injection h2 with h2; subst h2; exact hvo h1))
                      clear HB10 HO10 HC10
                      as_aux_lemma =>
                        go_upto_region 9 with (fail)
                        clear p1 p2 q1 q2
                        go_wp2_with (first | (refine wpList_load_mid rfl 51 (.tmp 10) rfl Q 0 rfl [.string ⟨r2p.toArray⟩, .int .i64 r2q, .bool true] _ HRQ.out Tryz.underlying51 rfl Tryz.rateSz ?_) | (refine wpList_store_mid rfl 51 (.tmp 12) (.tmp 67) rfl C 0 #[.string ⟨r2p.toArray⟩, .int .i64 r2q, .bool true] rfl rfl HTH.out Tryz.rateSz (by simp [Value.oneCell']) ?_; generalize World.setCells w10 C 0 _ = w11 at HC11 HB11 HO11 ⊢; refine Hid.out ?_))
                        refine Lib.hid ?_
                        go_upto_region 10 with (fail)
                        clear HTH HRQ
                        have c0 := HC11.out.cell 0 rfl
                        have cf := HC11.out.fr 0
                        have HC12 := Lib.hid (HC11.out.put 0 (.string ⟨s.toArray⟩))
                        have HB12 := Lib.hid (HB11.out.setCell (p := ⟨C, 0, none⟩) hwC (.string ⟨s.toArray⟩))
                        have HO12 := Lib.hid (own_set (p := ⟨C, 0, none⟩) (u := .string ⟨s.toArray⟩) HO11.out hvo)
                        clear HC11 HB11 HO11
                        as_aux_lemma =>
                          go_upto_region 11 with (fail)
                          clear c0 cf
                          generalize World.setCell w11 _ _ = w9 at HC12 HB12 HO12 ⊢
                          have HRC : Hid (w9.rangeAt C 0 [.string ⟨s.toArray⟩, .int .i64 r2q, .bool true]) := HC12.out.range
                          have HB9 := HB12
                          have HO9 := HO12
                          clear HC12 HB12 HO12 HQ10
                          have hoz := HO9.out
                          obtain ⟨oa, oc, rfl⟩ := own_shape hoz
                          have hrow : w5.heap.size ≤ w9.heap.size := HB9.out.size
                          have HOA : Hid (World.ownsRow (w9.alloc (.cells #[.string ⟨s.toArray⟩, .int .i64 r2q, .bool true] 51)) w5.heap.size 51 3 (.slice oa os.length oc) os.length ((os.map Rate.cells).flatten)) := World.ownsRow.alloc hoz (.cells #[.string ⟨s.toArray⟩, .int .i64 r2q, .bool true] 51)
                          have HNA : Hid (Blk (w9.alloc (.cells #[.string ⟨s.toArray⟩, .int .i64 r2q, .bool true] 51)) w9.heap.size [.string ⟨s.toArray⟩, .int .i64 r2q, .bool true] 51) := Blk.new w9 [.string ⟨s.toArray⟩, .int .i64 r2q, .bool true] 51
                          have hvw : ∀ b, (Value.slice oa os.length oc).ownBlock = some b → w5.heap.size ≤ b := fun b e => (hoz.lt b e).1
                          clear hoz
                          as_aux_lemma =>
                            go_wp2_with (first | (refine wpList_load_mid rfl 51 (.tmp 12) rfl C 0 rfl [.string ⟨s.toArray⟩, .int .i64 r2q, .bool true] _ HRC.out Tryz.underlying51 rfl Tryz.rateSz ?_) | (refine wpList_val rfl (bl_dbr1 _ (fun _ => rfl) _ _ 71 ⟨s.toArray⟩ r2q true rfl rfl) ?_) | (at_builtin; go_loud (refine wpList_append_own_at _ rfl (.tmp 70) (.tmp 72) 26 rfl w5.heap.size 51 i1 _ 3 32 Tryz.underlying26 hi1 hy0 hy1 hy2 rfl (by omega) (.slice oa os.length oc) os.length _ rfl HOA.out ⟨w9.heap.size, 0, none⟩ 1 1 [.string ⟨s.toArray⟩, .int .i64 r2q, .bool true] rfl rfl (fun j u hj => by rw [add0]; exact HNA.out.cell j hj) (by simp [Value.oneCell']) (by simp only [maxLen]; omega) (by omega) (by simp; omega) ?_); intro v12 w12 hown12 hgr12 _ hat12; have HQ1 := Lib.hid hown12; have HQ2 := Lib.hid hgr12; clear hown12 hgr12 hat12 HOA HNA; refine Hid.out ?_))
                            refine Lib.hid ?_
                            have HO12 : Hid (w12.ownsRow w5.heap.size 51 3 v12 (os ++ [(⟨s, r2q, true⟩ : Rate)]).length (((os ++ [(⟨s, r2q, true⟩ : Rate)]).map Rate.cells).flatten)) := by
                              show World.ownsRow _ _ _ _ _ _ _
                              rw [rcells_snoc, List.length_append]
                              exact HQ1.out
                            have HB12 : Hid (Below w5.heap.size w5 w12) := HB9.out.trans (upto_grown HQ2.out hrow hvw)
                            clear HQ1 HQ2 HO9 HB9
                            as_aux_lemma =>
                              go_wp2_with fail
                              go_roundw
                              case rel => exact ⟨i + 1, os ++ [(⟨s, r2q, true⟩ : Rate)], by omega, by go_num, HN.out, HO12.out, HB12.out⟩
                              case measure => simp [intOf]; omega
                    have hq : refBest ⟨r1p, r1q, true⟩ ⟨r2p, r2q, true⟩ true true = ⟨r1p, r1q, true⟩ := by unfold refBest; simp [hqq]
                    have HN : Hid (os ++ [⟨s, r1q, true⟩] = ((onceL K).take (i + 1)).map (bestO grs krs)) := by
                      show _ = _
                      rw [HST.out, HU.out, hq]
                    clear HST HU hq HP10
                    have HC11 := HC10
                    have HB11 := HB10
                    have HO11 := HO10
                    obtain ⟨w11, rfl⟩ : ∃ x : World, x = w10 := ⟨_, rfl⟩
                    clear HC10 HB10 HO10
                    as_aux_lemma =>
                      go_upto_region 10 with (fail)
                      clear p1 p2 q1 q2
                      have c0 := HC11.out.cell 0 rfl
                      have cf := HC11.out.fr 0
                      have HC12 := Lib.hid (HC11.out.put 0 (.string ⟨s.toArray⟩))
                      have HB12 := Lib.hid (HB11.out.setCell (p := ⟨C, 0, none⟩) hwC (.string ⟨s.toArray⟩))
                      have HO12 := Lib.hid (own_set (p := ⟨C, 0, none⟩) (u := .string ⟨s.toArray⟩) HO11.out hvo)
                      clear HC11 HB11 HO11
                      as_aux_lemma =>
                        go_upto_region 11 with (fail)
                        clear c0 cf
                        generalize World.setCell w11 _ _ = w9 at HC12 HB12 HO12 ⊢
                        have HRC : Hid (w9.rangeAt C 0 [.string ⟨s.toArray⟩, .int .i64 r1q, .bool true]) := HC12.out.range
                        have HB9 := HB12
                        have HO9 := HO12
                        clear HC12 HB12 HO12 HQ10
                        have hoz := HO9.out
                        obtain ⟨oa, oc, rfl⟩ := own_shape hoz
                        have hrow : w5.heap.size ≤ w9.heap.size := HB9.out.size
                        have HOA : Hid (World.ownsRow (w9.alloc (.cells #[.string ⟨s.toArray⟩, .int .i64 r1q, .bool true] 51)) w5.heap.size 51 3 (.slice oa os.length oc) os.length ((os.map Rate.cells).flatten)) := World.ownsRow.alloc hoz (.cells #[.string ⟨s.toArray⟩, .int .i64 r1q, .bool true] 51)
                        have HNA : Hid (Blk (w9.alloc (.cells #[.string ⟨s.toArray⟩, .int .i64 r1q, .bool true] 51)) w9.heap.size [.string ⟨s.toArray⟩, .int .i64 r1q, .bool true] 51) := Blk.new w9 [.string ⟨s.toArray⟩, .int .i64 r1q, .bool true] 51
                        have hvw : ∀ b, (Value.slice oa os.length oc).ownBlock = some b → w5.heap.size ≤ b := fun b e => (hoz.lt b e).1
                        clear hoz
                        as_aux_lemma =>
                          go_wp2_with (first | (refine wpList_load_mid rfl 51 (.tmp 12) rfl C 0 rfl [.string ⟨s.toArray⟩, .int .i64 r1q, .bool true] _ HRC.out Tryz.underlying51 rfl Tryz.rateSz ?_) | (refine wpList_val rfl (bl_dbr1 _ (fun _ => rfl) _ _ 71 ⟨s.toArray⟩ r1q true rfl rfl) ?_) | (at_builtin; go_loud (refine wpList_append_own_at _ rfl (.tmp 70) (.tmp 72) 26 rfl w5.heap.size 51 i1 _ 3 32 Tryz.underlying26 hi1 hy0 hy1 hy2 rfl (by omega) (.slice oa os.length oc) os.length _ rfl HOA.out ⟨w9.heap.size, 0, none⟩ 1 1 [.string ⟨s.toArray⟩, .int .i64 r1q, .bool true] rfl rfl (fun j u hj => by rw [add0]; exact HNA.out.cell j hj) (by simp [Value.oneCell']) (by simp only [maxLen]; omega) (by omega) (by simp; omega) ?_); intro v12 w12 hown12 hgr12 _ hat12; have HQ1 := Lib.hid hown12; have HQ2 := Lib.hid hgr12; clear hown12 hgr12 hat12 HOA HNA; refine Hid.out ?_))
                          refine Lib.hid ?_
                          have HO12 : Hid (w12.ownsRow w5.heap.size 51 3 v12 (os ++ [(⟨s, r1q, true⟩ : Rate)]).length (((os ++ [(⟨s, r1q, true⟩ : Rate)]).map Rate.cells).flatten)) := by
                            show World.ownsRow _ _ _ _ _ _ _
                            rw [rcells_snoc, List.length_append]
                            exact HQ1.out
                          have HB12 : Hid (Below w5.heap.size w5 w12) := HB9.out.trans (upto_grown HQ2.out hrow hvw)
                          clear HQ1 HQ2 HO9 HB9
                          as_aux_lemma =>
                            go_wp2_with fail
                            go_roundw
                            case rel => exact ⟨i + 1, os ++ [(⟨s, r1q, true⟩ : Rate)], by omega, by go_num, HN.out, HO12.out, HB12.out⟩
                            case measure => simp [intOf]; omega
end Go.Proofs.YtacekbbndamkmaaGreatDoor
