/- What is proved here: lemmas and contracts for the statement, put together out of smaller texts (LawShares). No condition beyond those stated. -/
import Derived.Test.YtppinnjdaoaddaaGreatDoorStPkF
import Derived.Test.YtppinnjdaoaddaaGreatDoorStPkH
import Derived.Test.YtppinnjdaoaddaaGreatDoorStPkC
import Derived.Test.YtppinnjdaoaddaaGreatDoorStPkI
import Derived.Deep.DeepCutAuto
set_option linter.unusedVariables false
set_option linter.unusedSimpArgs false
namespace Go.Proofs.YtppinnjdaoaddaaGreatDoor
open Go.RowKit

theorem Tryz.infoIntL : (Tryz.prog.info? 3).map (fun i => (i.zero, i.size, i.bytes)) = some (some (.int .i64 0), 1, 8) := by kernel_rfl
theorem bl_lsh0 (e : Operand → Value) (he : ∀ v, e (.const v) = v) (o : Oper) (w : World)  (z0 : Int) (z1 : Int) (z2 : Int) (z3 : Int) (z4 : Int) (z5 : Int) (ho : o.op = .buildSlice 22 6 #[(0, .const (.int .i64 z0)), (1, .const (.int .i64 z1)), (2, .const (.int .i64 z2)), (3, .const (.int .i64 z3)), (4, .const (.int .i64 z4)), (5, .const (.int .i64 z5))])  :
   (execOp e o).run Tryz.prog w = .ok (.value (.slice (some ⟨w.heap.size, 0, none⟩) 6 6)) (w.alloc (.cells #[.int .i64 z0, .int .i64 z1, .int .i64 z2, .int .i64 z3, .int .i64 z4, .int .i64 z5] 3)) := by
  unfold execOp
  rw [ho]
  simp only [List.map_toArray, List.map_cons, List.map_nil, he]
  kernel_rfl
theorem bl_lsh1 (e : Operand → Value) (he : ∀ v, e (.const v) = v) (o : Oper) (w : World)  (z0 : Int) (z1 : Int) (z2 : Int) (z3 : Int) (z4 : Int) (ho : o.op = .buildSlice 22 5 #[(0, .const (.int .i64 z0)), (1, .const (.int .i64 z1)), (2, .const (.int .i64 z2)), (3, .const (.int .i64 z3)), (4, .const (.int .i64 z4))])  :
   (execOp e o).run Tryz.prog w = .ok (.value (.slice (some ⟨w.heap.size, 0, none⟩) 5 5)) (w.alloc (.cells #[.int .i64 z0, .int .i64 z1, .int .i64 z2, .int .i64 z3, .int .i64 z4] 3)) := by
  unfold execOp
  rw [ho]
  simp only [List.map_toArray, List.map_cons, List.map_nil, he]
  kernel_rfl
theorem bl_lsh2 (e : Operand → Value) (he : ∀ v, e (.const v) = v) (o : Oper) (w : World) (i0 : Nat) (z0 : Int) (ho : o.op = .buildSlice 22 1 #[(0, .tmp i0)]) (h0 : e (.tmp i0) = .int .i64 z0) :
   (execOp e o).run Tryz.prog w = .ok (.value (.slice (some ⟨w.heap.size, 0, none⟩) 1 1)) (w.alloc (.cells #[.int .i64 z0] 3)) := by
  unfold execOp
  rw [ho]
  simp only [List.map_toArray, List.map_cons, List.map_nil, h0]
  kernel_rfl
theorem bl_lsh3 (e : Operand → Value) (he : ∀ v, e (.const v) = v) (o : Oper) (w : World)  (z0 : Int) (z1 : Int) (z2 : Int) (ho : o.op = .buildSlice 22 3 #[(0, .const (.int .i64 z0)), (1, .const (.int .i64 z1)), (2, .const (.int .i64 z2))])  :
   (execOp e o).run Tryz.prog w = .ok (.value (.slice (some ⟨w.heap.size, 0, none⟩) 3 3)) (w.alloc (.cells #[.int .i64 z0, .int .i64 z1, .int .i64 z2] 3)) := by
  unfold execOp
  rw [ho]
  simp only [List.map_toArray, List.map_cons, List.map_nil, he]
  kernel_rfl
theorem bl_lsh4 (e : Operand → Value) (he : ∀ v, e (.const v) = v) (o : Oper) (w : World) (i0 : Nat) (i1 : Nat) (z0 : Int) (z1 : Int) (ho : o.op = .buildSlice 114 2 #[(0, .tmp i0), (1, .tmp i1)]) (h0 : e (.tmp i0) = .int .i64 z0) (h1 : e (.tmp i1) = .int .i64 z1) :
   (execOp e o).run Tryz.prog w = .ok (.value (.slice (some ⟨w.heap.size, 0, none⟩) 2 2)) (w.alloc (.cells #[.int .i64 z0, .int .i64 z1] 38)) := by
  unfold execOp
  rw [ho]
  simp only [List.map_toArray, List.map_cons, List.map_nil, h0, h1]
  kernel_rfl
set_option maxRecDepth 100000 in
set_option maxHeartbeats 40000000 in
theorem sharesTurn_true (w : World) (a0 : Option Addr) (len cap : Nat) (zs : List Int) (hr : ArgRow w a0 len cap zs) (hT : TabW w.heap.size w) :
    Calls Tryz.prog 3 #[.slice a0 len cap] w fun e w' => e = .returned (.bool true) ∧ Below w.heap.size w w' := by
  have HS0 := Lib.hid (stream_start hr)
  have HT0 : Hid (TabW w.heap.size (w.alloc (.cells #[.slice a0 len cap, .int .i64 0] 25))) := tab_below hT (ext_alloc (Below.refl _ _)) (Nat.le_refl _)
  have HEND : Hid (∀ W, Keeps w.heap.size (w.alloc (.cells #[.slice a0 len cap, .int .i64 0] 25)) W → Below w.heap.size w W) := fun W h => law_end h
  have hsz : w.heap.size < (w.alloc (.cells #[.slice a0 len cap, .int .i64 0] 25)).heap.size := by simp
  obtain ⟨i0, hi, hz0, hz1, hz2⟩ := info_parts Tryz.infoIntL
  clear hr hT
  go_enter Tryz.func3, Tryz.ntmps3
  go_wp2_with fail
  refine (carriers_any w.heap.size 0 _ HS0.out (by omega)).mono ?_
  rintro e w1 ⟨v1, l, rfl, ho, hl3, hif, hst, hk'⟩
  have hsz1 : w.heap.size < w1.heap.size := Nat.lt_of_lt_of_le hsz hk'.size
  obtain ⟨a, ca, rfl, hca, -⟩ := carr_row ho hif (Keeps.refl w.heap.size w1) hsz (by omega)
  have HRC : Hid (∀ W, Keeps w.heap.size w1 W → CarrRow W a l.length l) := fun W hW => by
    obtain ⟨a9, c9, e9, -, h9⟩ := carr_row ho hif hW hsz (by omega)
    injection e9 with e1 e2 e3
    subst e1
    exact h9
  have HK1 := Lib.hid hk'
  have HS1 := Lib.hid hst
  have HT1 : Hid (TabW w.heap.size w1) := tab_keeps HT0.out hk' hsz
  clear ho hif hst hk' HS0 HT0 hsz
  as_aux_lemma =>
    go_wp2_with fail
    refine (range_any w.heap.size 400 0 8 _ HS1.out (by omega) (by omega) (by omega) (by omega)).mono ?_
    rintro e w2 ⟨m0, rfl, m00, m01, hst, hk'⟩
    obtain ⟨m, rfl⟩ := Int.eq_ofNat_of_zero_le m00
    have HS2 := Lib.hid hst
    have HK2 := Lib.hid (HK1.out.trans hk')
    have HR2 : Hid (∀ W, Keeps w.heap.size w2 W → CarrRow W a l.length l) := fun W hW => HRC.out W (hk'.trans hW)
    have HT2 : Hid (TabW w.heap.size w2) := tab_keeps HT1.out hk' hsz1
    have hsz2 : w.heap.size < w2.heap.size := Nat.lt_of_lt_of_le hsz1 hk'.size
    clear hst hk' HS1 HK1 HRC HT1 m00 hsz1
    as_aux_lemma =>
      go_wp2_with fail
      refine (outside_any w.heap.size 401 m _ HS2.out (by omega) (by omega) HT2.out).mono ?_
      rintro e w3 ⟨v3, rs, rfl, ho, hrl, hri, hst, hk'⟩
      obtain ⟨b, cb, rfl, hcb, -⟩ := rcd_rows ho hri (Keeps.refl w.heap.size w3) hsz2 (by omega)
      have HRR : Hid (∀ W, Keeps w.heap.size w3 W → RcdRow W b rs.length rs) := fun W hW => by
        obtain ⟨a9, c9, e9, -, h9⟩ := rcd_rows ho hri hW hsz2 (by omega)
        injection e9 with e1 e2 e3
        subst e1
        exact h9
      have HS3 := Lib.hid hst
      have HK3 := Lib.hid (HK2.out.trans hk')
      have HR3 : Hid (∀ W, Keeps w.heap.size w3 W → CarrRow W a l.length l) := fun W hW => HR2.out W (hk'.trans hW)
      have hsz3 : w.heap.size < w3.heap.size := Nat.lt_of_lt_of_le hsz2 hk'.size
      clear hst hk' HS2 HK2 HR2 HT2 hsz2 ho hri
      as_aux_lemma =>
        go_wp2_with fail
        refine (stretch_any w.heap.size (401 + 200) _ HS3.out (by omega)).mono ?_
        rintro e w4 ⟨f, t, rfl, ⟨hf, ht⟩, hst, hk'⟩
        have HB5 : Hid (Blk (World.setCells (w4.alloc (.cells #[.int .i64 0, .int .i64 0] 32)) w4.heap.size 0 [.int .i64 f, .int .i64 t]) w4.heap.size [.int .i64 f, .int .i64 t] 32) := ((Blk.new w4 [.int .i64 0, .int .i64 0] 32).put 0 _).put 1 _
        have HTH : Hid ((w4.alloc (.cells #[.int .i64 0, .int .i64 0] 32)).there w4.heap.size 0 2) := (Blk.new w4 [.int .i64 0, .int .i64 0] 32).th 2 (by decide)
        have hsz4 : w.heap.size < w4.heap.size := Nat.lt_of_lt_of_le hsz3 hk'.size
        have hk5 : Keeps w.heap.size w3 (World.setCells (w4.alloc (.cells #[.int .i64 0, .int .i64 0] 32)) w4.heap.size 0 [.int .i64 f, .int .i64 t]) := keeps_setCells hk'.size _ _ _ (hk'.trans ((Keeps.refl _ _).alloc _))
        have HS5 : Hid (StreamOk (World.setCells (w4.alloc (.cells #[.int .i64 0, .int .i64 0] 32)) w4.heap.size 0 [.int .i64 f, .int .i64 t]) w.heap.size (401 + 200 + 5)) := (hst.below (ext_alloc (Below.refl _ _))).upto (below_setCells (by omega) _ _ _)
        have HK5 := Lib.hid (HK3.out.trans hk5)
        have HR5 : Hid (∀ W, Keeps w.heap.size (World.setCells (w4.alloc (.cells #[.int .i64 0, .int .i64 0] 32)) w4.heap.size 0 [.int .i64 f, .int .i64 t]) W → CarrRow W a l.length l ∧ RcdRow W b rs.length rs) := fun W hW => ⟨HR3.out W (hk5.trans hW), HRR.out W (hk5.trans hW)⟩
        have hsz5 : w.heap.size < (World.setCells (w4.alloc (.cells #[.int .i64 0, .int .i64 0] 32)) w4.heap.size 0 [.int .i64 f, .int .i64 t]).heap.size := Nat.lt_of_lt_of_le hsz3 hk5.size
        clear hst hk' hk5 HS3 HK3 HR3 HRR hsz3
        as_aux_lemma =>
          go_wp2_with (refine wpList_store_mid rfl 32 (.tmp 6) (.tmp 27) rfl w4.heap.size 0 #[.int .i64 f, .int .i64 t] rfl rfl HTH.out Tryz.winSize (by simp [Value.oneCell']) ?_; generalize (World.setCells (w4.alloc (.cells #[.int .i64 0, .int .i64 0] 32)) w4.heap.size 0 [.int .i64 f, .int .i64 t]) = w5 at HB5 HS5 HK5 HR5 hsz5 ⊢; clear HTH; refine Hid.out ?_)
          refine Lib.hid ?_
          generalize w4.heap.size = X at HB5 hsz4 ⊢
          have hXS : X ≠ w.heap.size := by omega
          clear hsz4
          as_aux_lemma =>
            go_wp2_with fail
            refine (sharesD_any w.heap.size (401 + 200 + 5) _ HS5.out (by omega) a l.length ca l hl3 (fun W hW => (HR5.out W hW).1)).mono ?_
            rintro e w6 ⟨v6, s, rfl, ho, hsl, hsi, hst, hk'⟩
            obtain ⟨a2, c2, rfl, hc2, -⟩ := shr_rows ho hsi (Keeps.refl w.heap.size w6) hsz5 (by omega)
            have HR6 : Hid (∀ W, Keeps w.heap.size w6 W → CarrRow W a l.length l ∧ RcdRow W b rs.length rs ∧ ShrRow W a2 s.length s) := fun W hW => by
              obtain ⟨a9, c9, e9, -, h9⟩ := shr_rows ho hsi hW hsz5 (by omega)
              injection e9 with e1 e2 e3
              subst e1
              exact ⟨(HR5.out W (hk'.trans hW)).1, (HR5.out W (hk'.trans hW)).2, h9⟩
            have HS6 := Lib.hid hst
            have HK6 := Lib.hid (HK5.out.trans hk')
            have HB6 := Lib.hid (HB5.out.keeps hk' hXS)
            have hsz6 : w.heap.size < w6.heap.size := Nat.lt_of_lt_of_le hsz5 hk'.size
            clear hst hk' HS5 HK5 HR5 HB5 ho hsi hsz5
            generalize hnl : l.length = n at HR6 hl3 hca hsl ⊢
            have HNL := Lib.hid hnl
            generalize hnr : rs.length = nr at HR6 hrl hcb ⊢
            have HNR := Lib.hid hnr
            generalize hns : s.length = ns at HR6 hsl hc2 ⊢
            have HNS := Lib.hid hns
            clear hnl hnr hns
            as_aux_lemma =>
              go_wp2_with ((refine wpList_val rfl (bl_lsh0 _ (fun _ => rfl) _ _  0 0 0 0 0 1 rfl) ?_))
              refine (pick_lit w.heap.size (401 + 200 + 5 + 10) [0, 0, 0, 0, 0, 1] (fun x => 0 ≤ x ∧ x ≤ 1) _ _ _ HS6.out (by omega) rfl rfl (by decide) (by decide) (by decide)).mono ?_
              rintro e w7 ⟨z, rfl, ⟨z0, z1⟩, hst, hk'⟩
              obtain ⟨z, rfl⟩ := Int.eq_ofNat_of_zero_le z0
              have HS7 := Lib.hid hst
              have HK7 := Lib.hid (HK6.out.trans hk')
              have HR7 : Hid (∀ W, Keeps w.heap.size w7 W → CarrRow W a n l ∧ RcdRow W b nr rs ∧ ShrRow W a2 ns s) := fun W hW => HR6.out W (hk'.trans hW)
              have HB7 := Lib.hid (HB6.out.keeps hk' hXS)
              have hsz7 : w.heap.size < w7.heap.size := Nat.lt_of_lt_of_le hsz6 hk'.size
              have hzw : IntKind.i64.wrap ((ns : Int) + z) = ((ns + z : Nat) : Int) := IntWalk.i64_in _ (by omega)
              clear hst hk' HS6 HK6 HR6 HB6 hsz6 z0
              obtain ⟨N, hN⟩ : ∃ N, N = ns + z := ⟨_, rfl⟩
              rw [← hN] at hzw
              have hN5 : N ≤ 5 := by omega
              clear hN
              as_aux_lemma =>
                go_wp2_with fail
                go_loopw [8, 37] (fun vo it wr => ∃ (i : Nat) (xs : List Int), i ≤ N ∧ it = .int .i64 i ∧ Hid (wr.ownsRow w7.heap.size 3 1 vo i (xs.map (Value.int .i64))) ∧ w7.heap.size ≤ wr.heap.size ∧ Hid (StreamOk wr w.heap.size (401 + 200 + 5 + 10 + 1 + i)) ∧ Hid (Keeps w.heap.size w7 wr)) (fun _ it _ => N - (intOf it).toNat)
                case atStart => exact ⟨0, [], Nat.zero_le _, rfl, World.ownsRow_nil _ _ _ _, Nat.le_refl _, HS7.out, Keeps.refl _ _⟩
                case round =>
                  clear HS7
                  obtain ⟨i, xs, hiN, rfl, HO, hWr, HSr, HKr⟩ := hrel
                  obtain ⟨oa, oc, rfl⟩ := own_shape HO.out
                  by_cases hlt : i < N
                  · have hlti : (i : Int) < (N : Int) := by omega
                    have HVW := Lib.hid (fun b (e : (Value.slice oa i oc).ownBlock = some b) => (HO.out.lt b e).1)
                    as_aux_lemma =>
                      go_wp2_with ((refine wpList_val rfl (bl_lsh1 _ (fun _ => rfl) _ _  0 1 3 10 100 rfl) ?_))
                      refine (pick_lit w.heap.size (401 + 200 + 5 + 10 + 1 + i) [0, 1, 3, 10, 100] (fun x => 0 ≤ x ∧ x ≤ 100) _ _ _ HSr.out (by omega) rfl rfl (by decide) (by decide) (by decide)).mono ?_
                      rintro e w8 ⟨y, rfl, -, hst, hk'⟩
                      have HS8 := Lib.hid hst
                      have HK8 := Lib.hid (HKr.out.trans hk')
                      have HO8 := Lib.hid (own_keeps HO.out hk' hsz7)
                      have hz8 : w7.heap.size ≤ w8.heap.size := Nat.le_trans hWr hk'.size
                      have HOA := Lib.hid (HO8.out.alloc (.cells #[.int .i64 y] 3))
                      have HNA : Hid (Blk (w8.alloc (.cells #[.int .i64 y] 3)) w8.heap.size [.int .i64 y] 3) := Blk.new w8 [.int .i64 y] 3
                      clear hst hk' HSr HKr HO
                      as_aux_lemma =>
                        go_wp2_with (first | (refine wpList_val rfl (bl_lsh2 _ (fun _ => rfl) _ _ 42 y rfl rfl) ?_) | (at_builtin; go_loud (refine wpList_append_own_at _ rfl (.tmp 39) (.tmp 43) 22 rfl w7.heap.size 3 i0 _ 1 8 Tryz.underlying22 hi hz0 hz1 hz2 rfl (by omega) (.slice oa i oc) i _ rfl HOA.out ⟨w8.heap.size, 0, none⟩ 1 1 [.int .i64 y] rfl rfl (fun j u hj => by rw [add0]; exact HNA.out.cell j hj) (by simp [Value.oneCell']) (by simp only [maxLen]; omega) (by omega) (by simp; omega) ?_); intro v12 w12 hown12 hgr12 _ hat12; have HQ1 := Lib.hid hown12; have HQ2 := Lib.hid hgr12; clear hown12 hgr12 hat12 HOA HNA; refine Hid.out ?_))
                        refine Lib.hid ?_
                        have hown12 := HQ1.out
                        have hgr12 := HQ2.out
                        clear HQ1 HQ2
                        have HS12 : Hid (StreamOk w12 w.heap.size (401 + 200 + 5 + 10 + 1 + i + 1)) := HS8.out.upto (upto_grown hgr12 (by omega) (fun b e => by have := HVW.out b e; omega))
                        have HK12 : Hid (Keeps w.heap.size w7 w12) := HK8.out.grown hgr12 HVW.out
                        have HO12 : Hid (w12.ownsRow w7.heap.size 3 1 v12 (i + 1) ((xs ++ [y]).map (Value.int .i64))) := by
                          show World.ownsRow _ _ _ _ _ _ _
                          rw [List.map_append]
                          exact hown12
                        have hz12 := HK12.out.size
                        clear hown12 hgr12 HO8 HS8 HK8 hz8
                        as_aux_lemma =>
                          go_wp2_with fail
                          go_roundw
                          case rel => exact ⟨i + 1, xs ++ [y], by omega, by go_num, HO12.out, hz12, HS12.out.mono (by omega), HK12.out⟩
                          case measure => simp [intOf]; omega
                  · obtain rfl : i = N := by omega
                    have hlti : ¬ (i : Int) < (i : Int) := by omega
                    have HSr2 : Hid (StreamOk wr w.heap.size (401 + 200 + 5 + 10 + 1 + i)) := HSr
                    clear HSr hlt
                    as_aux_lemma =>
                      go_upto_region 9 with (fail)
                      go_cut [52] (fun v wx => ∃ bb : Bool, v = .bool bb ∧ Hid (bb = true → 0 < i) ∧ Hid (wx.ownsRow w7.heap.size 3 1 (.slice oa i oc) i (xs.map (Value.int .i64))) ∧ Hid (StreamOk wx w.heap.size (401 + 200 + 5 + 10 + 1 + i + 1)) ∧ Hid (Keeps w.heap.size w7 wx))
                      case first =>
                        by_cases hi0 : i = 0
                        · have hgt : ¬ (0 : Int) < (i : Int) := by omega
                          clear hi0
                          as_aux_lemma =>
                            go_wp2_with fail
                            go_meet
                            exact ⟨false, rfl, (fun h => by cases h), HO.out, HSr2.out.mono (by omega), HKr.out⟩
                        · have hgt : (0 : Int) < (i : Int) := by omega
                          as_aux_lemma =>
                            go_wp2_with fail
                            refine (flip_any w.heap.size (401 + 200 + 5 + 10 + 1 + i) 15 _ HSr2.out (by omega) (by decide) (by decide)).mono ?_
                            rintro e w9 ⟨fl, rfl, hst, hk'⟩
                            have HS9 := Lib.hid hst
                            have HK9 := Lib.hid (HKr.out.trans hk')
                            have HO9 := Lib.hid (own_keeps HO.out hk' hsz7)
                            clear hst hk'
                            as_aux_lemma =>
                              go_wp2_with fail
                              go_meet
                              exact ⟨fl, rfl, (fun _ => by omega), HO9.out, HS9.out, HK9.out⟩
                      case rest =>
                        obtain ⟨bb, rfl, HBB, HO9, HS9, HK9⟩ := hcut
                        obtain ⟨wf, rfl⟩ : ∃ x : World, x = wc := ⟨_, rfl⟩
                        clear HO HSr2 HKr hWr
                        as_aux_lemma =>
                          go_upto_if 52 with (fail)
                          go_cut [8] (fun v wx => ∃ (sc : Nat) (sa : Option Addr) (ys : List Int), v = .slice sa i sc ∧ Hid (wx.ownsRow w7.heap.size 3 1 (.slice sa i sc) i (ys.map (Value.int .i64))) ∧ Hid (Keeps w.heap.size w7 wx))
                          case first =>
                            cases bb
                            · skip
                              as_aux_lemma =>
                                go_wp2_with fail
                                go_meet
                                exact ⟨oc, oa, xs, rfl, HO9.out, HK9.out⟩
                            · have hi0 := HBB.out rfl
                              obtain ⟨g, rfl, hg1, hg2⟩ := own_pos HO9.out hi0
                              skip
                              as_aux_lemma =>
                                go_wp2_with ((refine wpList_val rfl (bl_lsh3 _ (fun _ => rfl) _ _  ((-1)) 1000000000000 1000000000001 rfl) ?_))
                                refine (pick_lit w.heap.size (401 + 200 + 5 + 10 + 1 + i + 1) [-1, 1000000000000, 1000000000001] (fun x => -1 ≤ x ∧ x ≤ 1000000000001) _ _ _ HS9.out (by omega) rfl rfl (by decide) (by decide) (by decide)).mono ?_
                                rintro e w10 ⟨y, rfl, -, hst, hk'⟩
                                have HO10 := Lib.hid (own_keeps HO9.out hk' hsz7)
                                have h0 := HO10.out.stored 0 (.int .i64 y)
                                have c0 : ∃ u, w10.cell? ⟨g, 0, none⟩ = some u := by
                                  have hlx : i = xs.length := by have := HO10.out.1; simp at this; omega
                                  have := HO10.out.cellAt 0 (by omega)
                                  refine ⟨.int .i64 (xs.getD 0 0), ?_⟩
                                  rw [this, getD_map_int .i64 xs 0 (by omega)]
                                obtain ⟨u, c0⟩ := c0
                                have cf := HO10.out.frozenAt 0
                                have HO11 : Hid ((w10.setCell ⟨g, 0, none⟩ (.int .i64 y)).ownsRow w7.heap.size 3 1 (.slice (some ⟨g, 0, none⟩) i oc) i ((xs.set 0 y).map (Value.int .i64))) := by
                                  show World.ownsRow _ _ _ _ _ _ _
                                  rw [List.map_set]
                                  exact h0.1
                                have HK11 : Hid (Keeps w.heap.size w7 (w10.setCell ⟨g, 0, none⟩ (.int .i64 y))) := (HK9.out.trans hk').setCell_new (p := ⟨g, 0, none⟩) hg1 _
                                have hili : (0 : Int) < (i : Int) := by omega
                                clear hst hk' h0 HO10 HS9 HO9 HK9
                                as_aux_lemma =>
                                  go_wp2_with (first | (refine wpList_done rfl (store_int _ _ _ _ _ rfl g 0 y u rfl rfl c0 cf) ?_))
                                  go_meet
                                  exact ⟨oc, some ⟨g, 0, none⟩, xs.set 0 y, rfl, HO11.out, HK11.out⟩
                          case rest =>
                            obtain ⟨sc, sa, ys, rfl, HO10, HK10⟩ := hcut
                            obtain ⟨wd, rfl⟩ : ∃ x : World, x = wc := ⟨_, rfl⟩
                            have hsc := (own_caps HO10.out).2
                            have hiy : i = ys.length := by have := HO10.out.1; simp at this; omega
                            have HRW : Hid (∀ W, Below wd.heap.size wd W → CarrRow W a n l ∧ RcdRow W b nr rs ∧ ShrRow W a2 ns s ∧ IRow .i64 W sa i ys ∧ Blk W X [.int .i64 f, .int .i64 t] 32) := fun W hW => by
                              have hk := HK10.out.trans (Keeps.of_below (S := w.heap.size) hW)
                              obtain ⟨h1, h2, h3⟩ := HR7.out W hk
                              obtain ⟨a9, c9, e9, -, h9⟩ := int_rows HO10.out (Keeps.of_below (S := w.heap.size) hW) hsz7
                              injection e9 with e1 e2 e3
                              subst e1
                              exact ⟨h1, h2, h3, h9, HB7.out.keeps hk hXS⟩
                            have HFIN : Hid (∀ W, Below wd.heap.size wd W → Below w.heap.size w W) := fun W hW => HEND.out W (HK7.out.trans (HK10.out.trans (Keeps.of_below hW)))
                            have hnl := HNL.out
                            have hnr := HNR.out
                            have hns := HNS.out
                            have HCF := Lib.hid (fun W (h : Below wd.heap.size wd W) => carrFault_any W a n ca l (HRW.out W h).1 hca)
                            have HSF := Lib.hid (fun W (h : Below wd.heap.size wd W) => shrFault_any W a n ca l (HRW.out W h).1 hca a2 ns c2 s (HRW.out W h).2.2.1 hc2)
                            have HCS := Lib.hid (fun W (h : Below wd.heap.size wd W) => checkShr_any W a n ca l (HRW.out W h).1 hca a2 ns c2 s (HRW.out W h).2.2.1 hc2)
                            have HTU := Lib.hid (fun W (h : Below wd.heap.size wd W) => turn_any W a n ca l (HRW.out W h).1 hca a2 ns c2 s (HRW.out W h).2.2.1 hc2 sa i sc ys (HRW.out W h).2.2.2.1 hsc (by omega))
                            have HSE := Lib.hid (fun W (h : Below wd.heap.size wd W) => sentFault_any W a2 ns c2 s hns.symm (by omega) sa i sc ys (HRW.out W h).2.2.2.1 (by omega))
                            have HTO : Hid (turnE l s ys = 0 → ∀ W, Below wd.heap.size wd W → Calls Tryz.prog 20 #[.slice a2 ns c2, .slice sa i sc] W fun e w' => e = .returned (.string ⟨(if turnE l s ys = 0 then turnK s ys else []).toArray⟩) ∧ Below W.heap.size W w') := fun h0 W h => by
                              obtain ⟨p1, p2, p3⟩ := turn_zero (by omega) (by omega) h0
                              rw [if_pos h0]
                              exact turnOf_any W a2 ns c2 s (HRW.out W h).2.2.1 hc2 sa i sc ys (HRW.out W h).2.2.2.1 hsc (by omega) p1 p2
                            have HME := Lib.hid (fun W (h : Below wd.heap.size wd W) => measure_any W a n ca l (HRW.out W h).1 hca b nr cb rs (HRW.out W h).2.1 hcb f t hf ht)
                            have HMF := Lib.hid (fun W (h : Below wd.heap.size wd W) => meaFault_any W a n ca l (HRW.out W h).1 hca b nr cb rs (HRW.out W h).2.1 hcb f t hf ht)
                            have HMO : Hid (measE l rs f t = 0 → ∀ W, Below wd.heap.size wd W → Calls Tryz.prog 25 #[.slice a n ca, .slice b nr cb, .agg #[.int .i64 f, .int .i64 t]] W fun e w' => ∃ v, e = .returned v ∧ w'.ownsRow W.heap.size 56 5 v (quals l rs f t n).length (((quals l rs f t n).map Qual.cells).flatten) ∧ Below W.heap.size W w') := fun h0 W h => by
                              have h1 : recsErr l rs f t = 0 := by
                                unfold measE at h0
                                split at h0
                                · rename_i h9; exact absurd h0 h9
                                · exact h0
                              obtain ⟨q1, q2, q3, q4⟩ := recs_zero (by omega) h1
                              exact measOf_any W a n ca l (HRW.out W h).1 hca b nr cb rs (HRW.out W h).2.1 hcb f t q1 q2 q3 q4
                            have HE1 := Lib.hid (shr_join l s)
                            have HE2 := Lib.hid (turn_join l s ys ns hns.symm)
                            have HE3 := Lib.hid (meas_join l rs f t)
                            have HIS := Lib.hid (turn_is (sent := ys) (show l.length ≤ 50 by omega) (show s.length ≤ 50 by omega))
                            have HQL := Lib.hid (quals_len l rs f t l.length)
                            have HK0 : Hid (turnE l s ys ≠ 0 → (if turnE l s ys = 0 then turnK s ys else []) = []) := fun h => if_neg h
                            have HBX : Hid (∀ W, Below wd.heap.size wd W → Blk W X [.int .i64 f, .int .i64 t] 32) := fun W h => (HRW.out W h).2.2.2.2
                            unfold TurnPost at HTU
                            unfold MeasPost at HME
                            rw [hnl] at HQL HME
                            clear hnl hnr hns hiy HRW HNL HNR HNS HK10 HO10 HK7 HR7 HB7 HEND
                            generalize (if turnE l s ys = 0 then turnK s ys else []) = K at HTU HTO HIS HK0
                            generalize decide (turnE l s ys = 0 ∧ s.length ≠ 0) = IS at HTU HIS
                            generalize turnE l s ys = E2 at HTU HTO HE2 HK0
                            generalize shrE l s = E1 at HCS HE1 HE2
                            generalize sharesErr l s = G at HSF HE1
                            generalize sentErr s ys = SE at HSE HE2
                            generalize measE l rs f t = ME at HME HMO HE3
                            generalize recsErr l rs f t = MF at HMF HE3
                            generalize carrsErr l = F at HCF HE1 HE2 HE3
                            generalize quals l rs f t n = Q at HME HMO HQL
                            obtain ⟨D0, hD0⟩ : ∃ D0 : Bool, D0 = decide (F = 0 ∧ ns = 0) := ⟨_, rfl⟩
                            have HD1 : Hid ((F == 0) = true → ((ns : Int) == 0) = D0) := fun h => by
                              have h1 : F = 0 := by simpa using h
                              rw [hD0]
                              by_cases h2 : ns = 0
                              · rw [decide_eq_true ⟨h1, h2⟩]; simpa using h2
                              · rw [decide_eq_false (fun h3 => h2 h3.2)]; simp; omega
                            have HD2 : Hid ((F == 0) = false → D0 = false) := fun h => by
                              have h1 : ¬ F = 0 := by simpa using h
                              rw [hD0, decide_eq_false (fun h3 => h1 h3.1)]
                            have HE4 : Hid (firstE (if D0 = true then 0 else E1) SE = E2) := by
                              show _ = _
                              rw [← HE2.out, hD0]
                              congr 1
                              by_cases h : F = 0 ∧ ns = 0
                              · rw [decide_eq_true h, if_pos rfl, if_pos h]
                              · rw [decide_eq_false h, if_neg (by decide), if_neg h]
                            obtain ⟨G2, hG2⟩ : ∃ G2 : Int, (if (F == 0) = true then G else 0) = G2 := ⟨_, rfl⟩
                            have HWN : Hid (∀ W, Calls Tryz.prog 15 #[.bool (F == 0), .int .i64 G] W fun r w' => r = .returned (.int .i64 G2) ∧ W = w') := fun W => by rw [← hG2]; exact when_l _ _ W
                            rw [hG2] at HE1
                            obtain ⟨M2, hM2⟩ : ∃ M2 : Int, (if (F == 0) = true then MF else 0) = M2 := ⟨_, rfl⟩
                            have HWM : Hid (∀ W, Calls Tryz.prog 15 #[.bool (F == 0), .int .i64 MF] W fun r w' => r = .returned (.int .i64 M2) ∧ W = w') := fun W => by rw [← hM2]; exact when_l _ _ W
                            rw [hM2] at HE3
                            clear hD0 HE2 hG2 hM2
                            as_aux_lemma =>
                              go_wp2_with fail
                              refine (HCF.out _ (Below.refl _ _)).mono ?_
                              rintro e wa ⟨rfl, hb⟩
                              have HBa := Lib.hid (hb)
                              clear hb HCF
                              as_aux_lemma =>
                                go_wp2_with fail
                                refine (HSF.out _ HBa.out).mono ?_
                                rintro e wb ⟨rfl, hb⟩
                                have HBb := Lib.hid (ext_trans HBa.out hb)
                                clear hb HSF HBa
                                as_aux_lemma =>
                                  go_wp2_with fail
                                  refine (HWN.out _).mono ?_
                                  rintro e w' ⟨rfl, rfl⟩
                                  as_aux_lemma =>
                                    go_wp2_with ((refine wpList_val rfl (bl_lsh4 _ (fun _ => rfl) _ _ 60 66 F G2 rfl rfl rfl) ?_))
                                    refine (or_any (F) (G2) wb.heap.size _ (by simp) (by go_simp) (by go_simp)).mono ?_
                                    rintro e w' ⟨rfl, rfl⟩
                                    rw [HE1.out]
                                    have HBc := Lib.hid (ext_alloc HBb.out (o := .cells #[.int .i64 (F), .int .i64 (G2)] 38))
                                    generalize World.alloc wb _ = wc at HBc ⊢
                                    clear HE1 HWN HBb
                                    as_aux_lemma =>
                                      go_wp2_with fail
                                      refine (HCS.out _ HBc.out).mono ?_
                                      rintro e we ⟨rfl, hb⟩
                                      have HBe := Lib.hid (ext_trans HBc.out hb)
                                      clear hb HCS HBc
                                      as_aux_lemma =>
                                        go_wp2_with fail
                                        refine (HTU.out _ HBe.out).mono ?_
                                        rintro e wf ⟨rfl, hb⟩
                                        have HBf := Lib.hid (ext_trans HBe.out hb)
                                        clear hb HTU HBe
                                        as_aux_lemma =>
                                          go_upto_region 17 with (fail)
                                          go_cut [89] (fun v wx => v = .bool D0 ∧ Hid (Below wd.heap.size wd wx))
                                          case first =>
                                            cases hF : (F == 0)
                                            · have hd := HD2.out hF
                                              as_aux_lemma =>
                                                go_wp2_with fail
                                                go_meet
                                                exact ⟨by rw [hd], by first | exact HBf.out | exact ext_drew HBf.out⟩
                                            · have hd := HD1.out hF
                                              cases D0
                                              · skip
                                                as_aux_lemma =>
                                                  go_wp2_with fail
                                                  go_meet
                                                  exact ⟨rfl, by first | exact HBf.out | exact ext_drew HBf.out⟩
                                              · skip
                                                as_aux_lemma =>
                                                  go_wp2_with fail
                                                  go_meet
                                                  exact ⟨rfl, by first | exact HBf.out | exact ext_drew HBf.out⟩
                                          case rest =>
                                            obtain ⟨rfl, HBg⟩ := hcut
                                            obtain ⟨wg, rfl⟩ : ∃ x : World, x = wc := ⟨_, rfl⟩
                                            clear HD1 HD2 HBf
                                            as_aux_lemma =>
                                              go_upto_if 89 with (fail)
                                              go_cut [14] (fun v wx => v = .int .i64 (if D0 = true then 0 else E1) ∧ Hid (Below wd.heap.size wd wx))
                                              case first =>
                                                cases D0
                                                · skip
                                                  as_aux_lemma =>
                                                    go_wp2_with fail
                                                    go_meet
                                                    exact ⟨rfl, HBg.out⟩
                                                · skip
                                                  as_aux_lemma =>
                                                    go_wp2_with fail
                                                    go_meet
                                                    exact ⟨rfl, HBg.out⟩
                                              case rest =>
                                                obtain ⟨rfl, HBh⟩ := hcut
                                                obtain ⟨wh, rfl⟩ : ∃ x : World, x = wc := ⟨_, rfl⟩
                                                clear HBg
                                                generalize (if D0 = true then (0 : Int) else E1) = T1 at HE4 ⊢
                                                as_aux_lemma =>
                                                  go_wp2_with fail
                                                  refine (HSE.out _ HBh.out).mono ?_
                                                  rintro e wi ⟨rfl, hb⟩
                                                  have HBi := Lib.hid (ext_trans HBh.out hb)
                                                  clear hb HSE HBh
                                                  as_aux_lemma =>
                                                    go_wp2_with ((refine wpList_val rfl (bl_lsh4 _ (fun _ => rfl) _ _ 90 93 T1 SE rfl rfl rfl) ?_))
                                                    refine (or_any (T1) (SE) wi.heap.size _ (by simp) (by go_simp) (by go_simp)).mono ?_
                                                    rintro e w' ⟨rfl, rfl⟩
                                                    rw [HE4.out]
                                                    have HBj := Lib.hid (ext_alloc HBi.out (o := .cells #[.int .i64 (T1), .int .i64 (SE)] 38))
                                                    generalize World.alloc wi _ = wj at HBj ⊢
                                                    clear HE4 HBi
                                                    as_aux_lemma =>
                                                      go_upto_if 97 with (fail)
                                                      go_cut [15] (fun v wx => v = .string ⟨K.toArray⟩ ∧ Hid (Below wd.heap.size wd wx))
                                                      case first =>
                                                        cases hE : (E2 == 0)
                                                        · have hk : K = [] := HK0.out (by simpa using hE)
                                                          as_aux_lemma =>
                                                            go_wp2_with fail
                                                            go_meet
                                                            exact ⟨by rw [hk], HBj.out⟩
                                                        · have HT9 := Lib.hid (HTO.out (by simpa using hE))
                                                          as_aux_lemma =>
                                                            go_wp2_with fail
                                                            refine (HT9.out _ HBj.out).mono ?_
                                                            rintro e wk ⟨rfl, hb⟩
                                                            have HBk := Lib.hid (ext_trans HBj.out hb)
                                                            clear hb
                                                            go_wp2_with fail
                                                            go_meet
                                                            exact ⟨rfl, HBk.out⟩
                                                      case rest =>
                                                        obtain ⟨rfl, HBk⟩ := hcut
                                                        obtain ⟨wk, rfl⟩ : ∃ x : World, x = wc := ⟨_, rfl⟩
                                                        clear HTO HK0 HBj
                                                        as_aux_lemma =>
                                                          go_upto_region 23 with (fail)
                                                          go_cut [114] (fun v wx => v = .bool false ∧ Hid (Below wd.heap.size wd wx))
                                                          case first =>
                                                            have hIS := HIS.out
                                                            cases K with
                                                            | nil =>
                                                              obtain rfl : IS = false := by rw [hIS]; rfl
                                                              clear hIS
                                                              skip
                                                              as_aux_lemma =>
                                                                go_wp2_with fail
                                                                go_meet
                                                                exact ⟨rfl, by first | exact HBk.out | exact ext_drew HBk.out⟩
                                                            | cons k0 ks =>
                                                              obtain rfl : IS = true := by rw [hIS]; rfl
                                                              clear hIS
                                                              skip
                                                              as_aux_lemma =>
                                                                go_wp2_with fail
                                                                go_meet
                                                                exact ⟨rfl, by first | exact HBk.out | exact ext_drew HBk.out⟩
                                                          case rest =>
                                                            obtain ⟨rfl, HBl⟩ := hcut
                                                            obtain ⟨wl, rfl⟩ : ∃ x : World, x = wc := ⟨_, rfl⟩
                                                            clear HIS HBk
                                                            obtain ⟨hX0, hX1⟩ : wl.cell? ⟨X, 0, none⟩ = some (.int .i64 f) ∧ wl.cell? ⟨X, 1, none⟩ = some (.int .i64 t) := ⟨(HBX.out _ HBl.out).cell 0 rfl, (HBX.out _ HBl.out).cell 1 rfl⟩
                                                            as_aux_lemma =>
                                                              go_wp2_with fail
                                                              refine (HME.out _ HBl.out).mono ?_
                                                              rintro e wm ⟨v9, qs, rfl, hqs, ho9, hb⟩
                                                              have HBm := Lib.hid (ext_trans HBl.out hb)
                                                              have HQ9 := Lib.hid ho9
                                                              have HQS := Lib.hid hqs
                                                              clear ho9 hqs
                                                              clear hb HME hX0 hX1 HBl
                                                              obtain ⟨hX0, hX1⟩ : wm.cell? ⟨X, 0, none⟩ = some (.int .i64 f) ∧ wm.cell? ⟨X, 1, none⟩ = some (.int .i64 t) := ⟨(HBX.out _ HBm.out).cell 0 rfl, (HBX.out _ HBm.out).cell 1 rfl⟩
                                                              as_aux_lemma =>
                                                                go_wp2_with fail
                                                                refine (HMF.out _ HBm.out).mono ?_
                                                                rintro e wn ⟨rfl, hb⟩
                                                                have HBn := Lib.hid (ext_trans HBm.out hb)
                                                                have HQA := Lib.hid (own_keep HQ9.out hb)
                                                                clear hb HMF hX0 hX1 HQ9 HBm
                                                                as_aux_lemma =>
                                                                  go_wp2_with fail
                                                                  refine (HWM.out _).mono ?_
                                                                  rintro e w' ⟨rfl, rfl⟩
                                                                  as_aux_lemma =>
                                                                    go_wp2_with ((refine wpList_val rfl (bl_lsh4 _ (fun _ => rfl) _ _ 122 129 F M2 rfl rfl rfl) ?_))
                                                                    have HQB := Lib.hid (HQA.out.alloc (.cells #[.int .i64 (F), .int .i64 (M2)] 38))
                                                                    refine (or_any (F) (M2) wn.heap.size _ (by simp) (by go_simp) (by go_simp)).mono ?_
                                                                    rintro e w' ⟨rfl, rfl⟩
                                                                    rw [HE3.out]
                                                                    have HBo := Lib.hid (ext_alloc HBn.out (o := .cells #[.int .i64 (F), .int .i64 (M2)] 38))
                                                                    generalize World.alloc wn _ = wo at HBo HQB ⊢
                                                                    clear HE3 HWM HQA HBn
                                                                    cases hM : (ME == 0)
                                                                    · have hme : ¬ ME = 0 := by simpa using hM
                                                                      obtain rfl : qs = [] := by rw [HQS.out, if_neg hme]
                                                                      obtain ⟨a9, c9, rfl⟩ := own_shape HQB.out
                                                                      simp only [List.length_nil]
                                                                      clear hme HQB HQS HMO
                                                                      as_aux_lemma =>
                                                                        go_wp2_with fail
                                                                        refine (carried_any _).mono ?_
                                                                        rintro e wp ⟨rfl, hb⟩
                                                                        have HFI := Lib.hid (HFIN.out _ (ext_trans HBo.out hb))
                                                                        clear hb HBo HFIN
                                                                        as_aux_lemma =>
                                                                          go_wp2_with fail
                                                                          go_ret
                                                                          exact ⟨rfl, HFI.out⟩
                                                                    · obtain rfl : ME = 0 := by simpa using hM
                                                                      obtain rfl : qs = Q := by rw [HQS.out, if_pos rfl]
                                                                      have HM9 := Lib.hid (HMO.out rfl _ HBo.out)
                                                                      obtain ⟨hX0, hX1⟩ : wo.cell? ⟨X, 0, none⟩ = some (.int .i64 f) ∧ wo.cell? ⟨X, 1, none⟩ = some (.int .i64 t) := ⟨(HBX.out _ HBo.out).cell 0 rfl, (HBX.out _ HBo.out).cell 1 rfl⟩
                                                                      obtain ⟨a9, c9, rfl⟩ := own_shape HQB.out
                                                                      generalize hql : qs.length = nq at HQB HQL HM9 ⊢
                                                                      have HNQ := Lib.hid hql
                                                                      clear hql HMO HQS hM
                                                                      as_aux_lemma =>
                                                                        go_wp2_with fail
                                                                        refine HM9.out.mono ?_
                                                                        rintro e wp ⟨v10, rfl, ho, hb⟩
                                                                        have HBp := Lib.hid (ext_trans HBo.out hb)
                                                                        have HQC := Lib.hid (own_keep HQB.out hb)
                                                                        have HQD := Lib.hid ho
                                                                        clear hb ho HBo HQB HM9 hX0 hX1
                                                                        have HEQ : Hid (Calls Tryz.prog 24 #[.slice a9 nq c9, v10] wp fun e w' => e = .returned (.bool true) ∧ Below wp.heap.size wp w') := by
                                                                          have hn := HNQ.out
                                                                          have h1 := HQC.out
                                                                          have h2 := HQD.out
                                                                          have h3 := HQL.out
                                                                          subst hn
                                                                          exact equal_quals h1 h2 rfl (by omega)
                                                                        clear HQC HQD HQL
                                                                        as_aux_lemma =>
                                                                          go_wp2_with fail
                                                                          refine HEQ.out.mono ?_
                                                                          rintro e wq ⟨rfl, hb⟩
                                                                          have HBq := Lib.hid (ext_trans HBp.out hb)
                                                                          clear hb HBp HEQ
                                                                          as_aux_lemma =>
                                                                            go_wp2_with fail
                                                                            refine (carried_any _).mono ?_
                                                                            rintro e wr ⟨rfl, hb⟩
                                                                            have HFI := Lib.hid (HFIN.out _ (ext_trans HBq.out hb))
                                                                            clear hb HBq HFIN
                                                                            as_aux_lemma =>
                                                                              go_wp2_with fail
                                                                              go_ret
                                                                              exact ⟨rfl, HFI.out⟩
end Go.Proofs.YtppinnjdaoaddaaGreatDoor
