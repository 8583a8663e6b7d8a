/- What is proved here: lemmas and contracts for the statement, put together out of smaller texts (LawRec). No condition beyond those stated. -/
import Derived.Test.YtleagenhnchjdaaGreatDoorRaPkF
import Derived.Test.YtleagenhnchjdaaGreatDoorRaPkG
import Derived.Test.YtleagenhnchjdaaGreatDoorRaPkH
set_option linter.unusedVariables false
set_option linter.unusedSimpArgs false
namespace Go.Proofs.YtleagenhnchjdaaGreatDoor
open Go.RowKit Go.Sort Go.Lib

/-- What is merged of right records is right. -/
theorem MrgD.ok {a b x : List Vrec} {d : List (List UInt8)} (h : MrgD a b x d) (ha : RecsOk a) (hb : RecsOk b) : RecsOk x := by
  refine ⟨fun r hr => ?_, h.asc.asc, h.asc.ids⟩
  rcases List.mem_append.1 ((h.top r).1 hr).1 with q | q
  · exact ha.good r q
  · exact hb.good r q
theorem MrgD.few {a b x : List Vrec} {d : List (List UInt8)} (h : MrgD a b x d) : d.length ≤ b.length := by
  have hn : d.Pairwise (fun p q => p ≠ q) := h.ids.imp (fun {p q} hpq (e : p = q) => by subst e; exact List.lt_irrefl _ hpq)
  have hs : d ⊆ b.map Vrec.id := fun k hk => by
    obtain ⟨r, hr, s, hs, _, _, e⟩ := (h.differ k).1 hk
    exact List.mem_map.2 ⟨r, hr, e⟩
  have := List.Nodup.length_le_of_subset hn hs
  rwa [List.length_map] at this
theorem MrgD.bd {a b x : List Vrec} {d : List (List UInt8)} (h : MrgD a b x d) (ha : ∀ r ∈ a, RecB r) (hb : ∀ r ∈ b, RecB r) : ∀ r ∈ x, RecB r := fun r hr => by
  rcases List.mem_append.1 ((h.top r).1 hr).1 with q | q
  · exact ha r q
  · exact hb r q
theorem bl_lrc0 (e : Operand → Value) (he : ∀ v, e (.const v) = v) (o : Oper) (w : World) (i0 : Nat) (i1 : Nat) (z0 : Int) (z1 : Int) (ho : o.op = .buildSlice 100 2 #[(0, .tmp i0), (1, .tmp i1)]) (h0 : e (.tmp i0) = .int .i64 z0) (h1 : e (.tmp i1) = .int .i64 z1) :
   (execOp e o).run Tryz.prog w = .ok (.value (.slice (some ⟨w.heap.size, 0, none⟩) 2 2)) (w.alloc (.cells #[.int .i64 z0, .int .i64 z1] 35)) := by
  unfold execOp
  rw [ho]
  simp only [List.map_toArray, List.map_cons, List.map_nil, h0, h1]
  kernel_rfl
theorem bl_lrc1 (e : Operand → Value) (he : ∀ v, e (.const v) = v) (o : Oper) (w : World) (i0 : Nat) (i1 : Nat) (i2 : Nat) (i3 : Nat) (i4 : Nat) (i5 : Nat) (z0 : Int) (z1 : Int) (z2 : Int) (z3 : Int) (z4 : Int) (z5 : Int) (ho : o.op = .buildSlice 100 6 #[(0, .tmp i0), (1, .tmp i1), (2, .tmp i2), (3, .tmp i3), (4, .tmp i4), (5, .tmp i5)]) (h0 : e (.tmp i0) = .int .i64 z0) (h1 : e (.tmp i1) = .int .i64 z1) (h2 : e (.tmp i2) = .int .i64 z2) (h3 : e (.tmp i3) = .int .i64 z3) (h4 : e (.tmp i4) = .int .i64 z4) (h5 : e (.tmp i5) = .int .i64 z5) :
   (execOp e o).run Tryz.prog w = .ok (.value (.slice (some ⟨w.heap.size, 0, none⟩) 6 6)) (w.alloc (.cells #[.int .i64 z0, .int .i64 z1, .int .i64 z2, .int .i64 z3, .int .i64 z4, .int .i64 z5] 35)) := by
  unfold execOp
  rw [ho]
  simp only [List.map_toArray, List.map_cons, List.map_nil, h0, h1, h2, h3, h4, h5]
  kernel_rfl
set_option maxRecDepth 100000 in
set_option maxHeartbeats 80000000 in
theorem recs_agree (w : World) (a0 : Option Addr) (len cap : Nat) (zs : List Int) (hr : ArgRow w a0 len cap zs) (ht : TabAt w) (hL : LibsW w.heap.size w) :
    Calls Tryz.prog 5 #[.slice a0 len cap] w fun e w' => e = .returned (.bool true) ∧ Below w.heap.size w w' := by
  have HS0 := Lib.hid (stream_start hr)
  have HT0 : Hid (TabAt (w.alloc (.cells #[.slice a0 len cap, .int .i64 0] 25))) := ht.below (ext_alloc (Below.refl _ _))
  have HTN : Hid (1 ≠ w.heap.size) := by have := ht.1; show _ ≠ _; omega
  have HL0 : Hid (LibsW w.heap.size (w.alloc (.cells #[.slice a0 len cap, .int .i64 0] 25))) := hL.below (ext_alloc (Below.refl _ _)) (Nat.le_refl _)
  have HEND : Hid (∀ W, Keeps w.heap.size (w.alloc (.cells #[.slice a0 len cap, .int .i64 0] 25)) W → Below w.heap.size w W) := fun W h => law_end h
  have hsz : w.heap.size < (w.alloc (.cells #[.slice a0 len cap, .int .i64 0] 25)).heap.size := by simp
  have HK0 := Lib.hid (Keeps.refl w.heap.size (w.alloc (.cells #[.slice a0 len cap, .int .i64 0] 25)))
  clear hr ht hL
  go_enter Tryz.func5, Tryz.ntmps5
  as_aux_lemma =>
    go_wp2_with fail
    refine (rightRecs_any w.heap.size 0 5 _ HS0.out (by omega) (by omega)).mono ?_
    rintro e w1 ⟨va, la, rfl, hrow, na, bda, oka, hst, hk'⟩
    have HS1 := Lib.hid hst
    have HK1 := Lib.hid (HK0.out.trans hk')
    have hs1 : w.heap.size < w1.heap.size := Nat.lt_of_lt_of_le hsz hk'.size
    obtain ⟨ba, hba⟩ : ∃ b, b = (w.alloc (.cells #[.slice a0 len cap, .int .i64 0] 25)).heap.size := ⟨_, rfl⟩
    have ga : w.heap.size < ba := by rw [hba]; exact hsz
    rw [← hba] at hrow
    have Ra1 := Lib.hid hrow
    have BDa := Lib.hid bda
    have OKa := Lib.hid oka
    clear hba hst hk' hrow bda oka HS0 HK0  hsz
    as_aux_lemma =>
      go_wp2_with fail
      refine (rightRecs_any w.heap.size (0 + 1000) 5 _ HS1.out (by omega) (by omega)).mono ?_
      rintro e w2 ⟨vb, lb, rfl, hrow, nb, bdb, okb, hst, hk'⟩
      have HS2 := Lib.hid hst
      have HK2 := Lib.hid (HK1.out.trans hk')
      have hs2 : w.heap.size < w2.heap.size := Nat.lt_of_lt_of_le hs1 hk'.size
      obtain ⟨bb, hbb⟩ : ∃ b, b = w1.heap.size := ⟨_, rfl⟩
      have gb : w.heap.size < bb := by rw [hbb]; exact hs1
      rw [← hbb] at hrow
      have Rb2 := Lib.hid hrow
      have Ra2 : Hid (VrecRow w2 ba va la) := own_keeps Ra1.out hk' ga
      have BDb := Lib.hid bdb
      have OKb := Lib.hid okb
      clear hbb hst hk' hrow bdb okb HS1 HK1 Ra1 hs1
      as_aux_lemma =>
        go_wp2_with fail
        refine (rightRecs_any w.heap.size (0 + 1000 + 1000) 4 _ HS2.out (by omega) (by omega)).mono ?_
        rintro e w3 ⟨vc, lc, rfl, hrow, nc, bdc, okc, hst, hk'⟩
        have HS3 := Lib.hid hst
        have HK3 := Lib.hid (HK2.out.trans hk')
        have hs3 : w.heap.size < w3.heap.size := Nat.lt_of_lt_of_le hs2 hk'.size
        obtain ⟨bc, hbc⟩ : ∃ b, b = w2.heap.size := ⟨_, rfl⟩
        have gc : w.heap.size < bc := by rw [hbc]; exact hs2
        rw [← hbc] at hrow
        have Rc3 := Lib.hid hrow
        have Ra3 : Hid (VrecRow w3 ba va la) := own_keeps Ra2.out hk' ga
        have Rb3 : Hid (VrecRow w3 bb vb lb) := own_keeps Rb2.out hk' gb
        have BDc := Lib.hid bdc
        have OKc := Lib.hid okc
        clear hbc hst hk' hrow bdc okc HS2 HK2 Ra2 Rb2 hs2
        have HLW : Hid (∀ W, Below w3.heap.size w3 W → LibsW w.heap.size W ∧ w.heap.size ≤ W.heap.size) := fun W hW => ⟨HL0.out.keeps (HK3.out.ext hW) (by simp), Nat.le_trans (Nat.le_of_lt hs3) hW.size⟩
        have HFW : Hid (∀ W, Below w3.heap.size w3 W → Below w.heap.size w W ∧ TabAt W) := fun W hW => ⟨HEND.out W (HK3.out.ext hW), HT0.out.keeps (HK3.out.ext hW) HTN.out⟩
        have B3 : Hid (Below w3.heap.size w3 w3) := Below.refl _ _
        clear HS3 HK3 HT0 HL0 HEND HTN ga gb gc hs3
        as_aux_lemma =>
          go_wp2_with fail
          refine (mergeR_any w3 la lb OKa.out OKb.out BDa.out BDb.out (by omega) (by omega) _ _ _ _ Ra3.out Rb3.out).mono ?_
          rintro e w4 ⟨vm, um, lm, d1, rfl, hr1, hr2, hm, hb⟩
          have Mm := Lib.hid hm
          have nm : lm.length ≤ la.length + lb.length := hm.len
          have OKm := Lib.hid (hm.ok OKa.out OKb.out)
          have BDm := Lib.hid (hm.bd BDa.out BDb.out)
          obtain ⟨jm, hbm⟩ : ∃ b, b = w3.heap.size := ⟨_, rfl⟩
          rw [← hbm] at hr1 hr2
          have B4 := Lib.hid (ext_trans B3.out hb)
          have Ra4 : Hid (VrecRow w4 ba va la) := own_keep Ra3.out hb
          have Rb4 : Hid (VrecRow w4 bb vb lb) := own_keep Rb3.out hb
          have Rc4 : Hid (VrecRow w4 bc vc lc) := own_keep Rc3.out hb
          have Rm4 : Hid (VrecRow w4 jm vm lm) := hr1
          have Rdm4 : Hid (w4.ownsRow jm 9 1 um d1.length (d1.map encS)) := hr2
          clear B3 Ra3 Rb3 Rc3
          clear hm hr1 hr2 hb hbm
          as_aux_lemma =>
            go_wp2_with fail
            refine (mergeR_any w4 lb la OKb.out OKa.out BDb.out BDa.out (by omega) (by omega) _ _ _ _ Rb4.out Ra4.out).mono ?_
            rintro e w5 ⟨vn, un, ln, d2, rfl, hr1, hr2, hm, hb⟩
            have Mn := Lib.hid hm
            have nn : ln.length ≤ lb.length + la.length := hm.len
            have OKn := Lib.hid (hm.ok OKb.out OKa.out)
            have BDn := Lib.hid (hm.bd BDb.out BDa.out)
            obtain ⟨jn, hbn⟩ : ∃ b, b = w4.heap.size := ⟨_, rfl⟩
            rw [← hbn] at hr1 hr2
            have B5 := Lib.hid (ext_trans B4.out hb)
            have Ra5 : Hid (VrecRow w5 ba va la) := own_keep Ra4.out hb
            have Rb5 : Hid (VrecRow w5 bb vb lb) := own_keep Rb4.out hb
            have Rc5 : Hid (VrecRow w5 bc vc lc) := own_keep Rc4.out hb
            have Rm5 : Hid (VrecRow w5 jm vm lm) := own_keep Rm4.out hb
            have Rdm5 : Hid (w5.ownsRow jm 9 1 um d1.length (d1.map encS)) := own_keep Rdm4.out hb
            have Rn5 : Hid (VrecRow w5 jn vn ln) := hr1
            have Rdn5 : Hid (w5.ownsRow jn 9 1 un d2.length (d2.map encS)) := hr2
            clear B4 Ra4 Rb4 Rc4 Rm4 Rdm4
            clear hm hr1 hr2 hb hbn
            have hA : Below w5.heap.size w5 (w5.alloc (.cells #[.int .i64 0, .int .i64 0] 35)) := ext_alloc (Below.refl _ _)
            have EE : Hid (Blk (w5.alloc (.cells #[.int .i64 0, .int .i64 0] 35)) w5.heap.size [.int .i64 0, .int .i64 0] 35) := Blk.new _ _ _
            obtain ⟨w6, hw6⟩ : ∃ W, W = (w5.alloc (.cells #[.int .i64 0, .int .i64 0] 35)) := ⟨_, rfl⟩
            rw [← hw6] at hA EE
            have HW6 := Lib.hid hw6
            clear hw6
            have B6 := Lib.hid (ext_trans B5.out hA)
            have Ra6 : Hid (VrecRow w6 ba va la) := own_keep Ra5.out hA
            have Rb6 : Hid (VrecRow w6 bb vb lb) := own_keep Rb5.out hA
            have Rc6 : Hid (VrecRow w6 bc vc lc) := own_keep Rc5.out hA
            have Rm6 : Hid (VrecRow w6 jm vm lm) := own_keep Rm5.out hA
            have Rdm6 : Hid (w6.ownsRow jm 9 1 um d1.length (d1.map encS)) := own_keep Rdm5.out hA
            have Rn6 : Hid (VrecRow w6 jn vn ln) := own_keep Rn5.out hA
            have Rdn6 : Hid (w6.ownsRow jn 9 1 un d2.length (d2.map encS)) := own_keep Rdn5.out hA
            clear B5 Ra5 Rb5 Rc5 Rm5 Rdm5 Rn5 Rdn5
            clear hA
            as_aux_lemma =>
              go_wp2_with ((refine wpList_val rfl (bl_lrc0 _ (fun _ => rfl) _ _ 51 52 0 0 rfl rfl rfl) ?_))
              rw [← HW6.out]
              refine (errs_zero w6 w5.heap.size 2 2 (by omega) (fun i hi => (by
                match i, hi with
                | 0, _ => exact EE.out.cell 0 rfl
                | 1, _ => exact EE.out.cell 1 rfl))).mono ?_
              rintro e w6b ⟨rfl, hw8⟩
              subst hw8
              clear EE HW6
              obtain ⟨e1, e2⟩ := MrgD.uniq Mm.out Mn.out
              subst e1
              subst e2
              clear Mn OKn BDn nn
              as_aux_lemma =>
                go_wp2_with fail
                refine (eqR_any Rm6.out Rn6.out (by omega)).mono ?_
                rintro e w7 ⟨rfl, hb⟩
                have B7 := Lib.hid (ext_trans B6.out hb)
                have Ra7 : Hid (VrecRow w7 ba va la) := own_keep Ra6.out hb
                have Rb7 : Hid (VrecRow w7 bb vb lb) := own_keep Rb6.out hb
                have Rc7 : Hid (VrecRow w7 bc vc lc) := own_keep Rc6.out hb
                have Rm7 : Hid (VrecRow w7 jm vm lm) := own_keep Rm6.out hb
                have Rdm7 : Hid (w7.ownsRow jm 9 1 um d1.length (d1.map encS)) := own_keep Rdm6.out hb
                have Rdn7 : Hid (w7.ownsRow jn 9 1 un d1.length (d1.map encS)) := own_keep Rdn6.out hb
                clear B6 Ra6 Rb6 Rc6 Rm6 Rdm6 Rn6 Rdn6
                clear hb
                as_aux_lemma =>
                  go_wp2_with fail
                  refine (eqStr_any Rdm7.out Rdn7.out rfl (by have := Mm.out.few; omega)).mono ?_
                  rintro e w8 ⟨rfl, hb⟩
                  have B8 := Lib.hid (ext_trans B7.out hb)
                  have Ra8 : Hid (VrecRow w8 ba va la) := own_keep Ra7.out hb
                  have Rb8 : Hid (VrecRow w8 bb vb lb) := own_keep Rb7.out hb
                  have Rc8 : Hid (VrecRow w8 bc vc lc) := own_keep Rc7.out hb
                  have Rm8 : Hid (VrecRow w8 jm vm lm) := own_keep Rm7.out hb
                  clear B7 Ra7 Rb7 Rc7 Rm7 Rdm7 Rdn7
                  clear hb
                  as_aux_lemma =>
                    go_wp2_with fail
                    refine (checkRecs_any _ _ _ _ Rm8.out (by omega) OKm.out BDm.out).mono ?_
                    rintro e w9 ⟨rfl, hb⟩
                    have B9 := Lib.hid (ext_trans B8.out hb)
                    have Ra9 : Hid (VrecRow w9 ba va la) := own_keep Ra8.out hb
                    have Rb9 : Hid (VrecRow w9 bb vb lb) := own_keep Rb8.out hb
                    have Rc9 : Hid (VrecRow w9 bc vc lc) := own_keep Rc8.out hb
                    have Rm9 : Hid (VrecRow w9 jm vm lm) := own_keep Rm8.out hb
                    clear B8 Ra8 Rb8 Rc8 Rm8
                    clear hb
                    as_aux_lemma =>
                      go_wp2_with fail
                      refine (mergeR_any w9 lb lc OKb.out OKc.out BDb.out BDc.out (by omega) (by omega) _ _ _ _ Rb9.out Rc9.out).mono ?_
                      rintro e w10 ⟨vp, up, lp, d3, rfl, hr1, hr2, hm, hb⟩
                      have Mp := Lib.hid hm
                      have np : lp.length ≤ lb.length + lc.length := hm.len
                      have OKp := Lib.hid (hm.ok OKb.out OKc.out)
                      have BDp := Lib.hid (hm.bd BDb.out BDc.out)
                      obtain ⟨jp, hbp⟩ : ∃ b, b = w9.heap.size := ⟨_, rfl⟩
                      rw [← hbp] at hr1 hr2
                      have B10 := Lib.hid (ext_trans B9.out hb)
                      have Ra10 : Hid (VrecRow w10 ba va la) := own_keep Ra9.out hb
                      have Rc10 : Hid (VrecRow w10 bc vc lc) := own_keep Rc9.out hb
                      have Rm10 : Hid (VrecRow w10 jm vm lm) := own_keep Rm9.out hb
                      have Rp10 : Hid (VrecRow w10 jp vp lp) := hr1
                      clear B9 Ra9 Rb9 Rc9 Rm9
                      clear hm hr1 hr2 hb hbp
                      as_aux_lemma =>
                        go_wp2_with fail
                        refine (mergeR_any w10 lm lc OKm.out OKc.out BDm.out BDc.out (by omega) (by omega) _ _ _ _ Rm10.out Rc10.out).mono ?_
                        rintro e w11 ⟨vx, ux, lx, d4, rfl, hr1, hr2, hm, hb⟩
                        have Mx := Lib.hid hm
                        have nx : lx.length ≤ lm.length + lc.length := hm.len
                        have OKx := Lib.hid (hm.ok OKm.out OKc.out)
                        have BDx := Lib.hid (hm.bd BDm.out BDc.out)
                        obtain ⟨jx, hbx⟩ : ∃ b, b = w10.heap.size := ⟨_, rfl⟩
                        rw [← hbx] at hr1 hr2
                        have B11 := Lib.hid (ext_trans B10.out hb)
                        have Ra11 : Hid (VrecRow w11 ba va la) := own_keep Ra10.out hb
                        have Rp11 : Hid (VrecRow w11 jp vp lp) := own_keep Rp10.out hb
                        have Rx11 : Hid (VrecRow w11 jx vx lx) := hr1
                        clear B10 Ra10 Rc10 Rm10 Rp10
                        clear hm hr1 hr2 hb hbx
                        as_aux_lemma =>
                          go_wp2_with fail
                          refine (mergeR_any w11 la lp OKa.out OKp.out BDa.out BDp.out (by omega) (by omega) _ _ _ _ Ra11.out Rp11.out).mono ?_
                          rintro e w12 ⟨vy, uy, ly, d5, rfl, hr1, hr2, hm, hb⟩
                          have My := Lib.hid hm
                          have ny : ly.length ≤ la.length + lp.length := hm.len
                          have OKy := Lib.hid (hm.ok OKa.out OKp.out)
                          have BDy := Lib.hid (hm.bd BDa.out BDp.out)
                          obtain ⟨jy, hby⟩ : ∃ b, b = w11.heap.size := ⟨_, rfl⟩
                          rw [← hby] at hr1 hr2
                          have B12 := Lib.hid (ext_trans B11.out hb)
                          have Ra12 : Hid (VrecRow w12 ba va la) := own_keep Ra11.out hb
                          have Rx12 : Hid (VrecRow w12 jx vx lx) := own_keep Rx11.out hb
                          have Ry12 : Hid (VrecRow w12 jy vy ly) := hr1
                          clear B11 Ra11 Rp11 Rx11
                          clear hm hr1 hr2 hb hby
                          as_aux_lemma =>
                            go_wp2_with fail
                            refine (mergeR_any w12 lx la OKx.out OKa.out BDx.out BDa.out (by omega) (by omega) _ _ _ _ Rx12.out Ra12.out).mono ?_
                            rintro e w13 ⟨vz, uz, lz, d6, rfl, hr1, hr2, hm, hb⟩
                            have Mz := Lib.hid hm
                            have nz : lz.length ≤ lx.length + la.length := hm.len
                            have OKz := Lib.hid (hm.ok OKx.out OKa.out)
                            have BDz := Lib.hid (hm.bd BDx.out BDa.out)
                            obtain ⟨jz, hbz⟩ : ∃ b, b = w12.heap.size := ⟨_, rfl⟩
                            rw [← hbz] at hr1 hr2
                            have B13 := Lib.hid (ext_trans B12.out hb)
                            have Rx13 : Hid (VrecRow w13 jx vx lx) := own_keep Rx12.out hb
                            have Ry13 : Hid (VrecRow w13 jy vy ly) := own_keep Ry12.out hb
                            have Rz13 : Hid (VrecRow w13 jz vz lz) := hr1
                            clear B12 Ra12 Rx12 Ry12
                            clear hm hr1 hr2 hb hbz
                            obtain ⟨e1, e2⟩ := mrg_law Mm.out Mp.out Mx.out My.out Mz.out
                            subst e1
                            subst e2
                            clear Mm Mp Mx My Mz OKa OKb OKc BDa BDb BDc OKm BDm OKp BDp
                            have HRD := Lib.hid (fun W (hW : Below w3.heap.size w3 W) => readRec2_any w.heap.size W lx OKx.out BDx.out (by omega) (HLW.out W hW).1 (HLW.out W hW).2)
                            as_aux_lemma =>
                              go_wp2_with fail
                              refine (textR_any _ _ _ _ Rx13.out (by omega) OKx.out BDx.out w.heap.size (HLW.out _ B13.out).1.tab (HLW.out _ B13.out).2).mono ?_
                              rintro e w14 ⟨rfl, hb⟩
                              have B14 := Lib.hid (ext_trans B13.out hb)
                              have Rx14 : Hid (VrecRow w14 jx vx lx) := own_keep Rx13.out hb
                              have Ry14 : Hid (VrecRow w14 jy vy lx) := own_keep Ry13.out hb
                              have Rz14 : Hid (VrecRow w14 jz vz lx) := own_keep Rz13.out hb
                              clear B13 Rx13 Ry13 Rz13
                              clear hb
                              as_aux_lemma =>
                                go_wp2_with fail
                                refine (HRD.out _ B14.out).mono ?_
                                rintro e w15 ⟨vq, rfl, hr1, hb⟩
                                obtain ⟨bq, hbq⟩ : ∃ b, b = w14.heap.size := ⟨_, rfl⟩
                                rw [← hbq] at hr1
                                have B15 := Lib.hid (ext_trans B14.out hb)
                                have Rx15 : Hid (VrecRow w15 jx vx lx) := own_keep Rx14.out hb
                                have Ry15 : Hid (VrecRow w15 jy vy lx) := own_keep Ry14.out hb
                                have Rz15 : Hid (VrecRow w15 jz vz lx) := own_keep Rz14.out hb
                                have Rq15 : Hid (VrecRow w15 bq vq lx) := hr1
                                clear B14 Rx14 Ry14 Rz14
                                clear hb hr1 hbq HRD
                                have hA : Below w15.heap.size w15 (w15.alloc (.cells #[.int .i64 0, .int .i64 0, .int .i64 0, .int .i64 0, .int .i64 0, .int .i64 0] 35)) := ext_alloc (Below.refl _ _)
                                have EE : Hid (Blk (w15.alloc (.cells #[.int .i64 0, .int .i64 0, .int .i64 0, .int .i64 0, .int .i64 0, .int .i64 0] 35)) w15.heap.size [.int .i64 0, .int .i64 0, .int .i64 0, .int .i64 0, .int .i64 0, .int .i64 0] 35) := Blk.new _ _ _
                                obtain ⟨w16, hw16⟩ : ∃ W, W = (w15.alloc (.cells #[.int .i64 0, .int .i64 0, .int .i64 0, .int .i64 0, .int .i64 0, .int .i64 0] 35)) := ⟨_, rfl⟩
                                rw [← hw16] at hA EE
                                have HW16 := Lib.hid hw16
                                clear hw16
                                have B16 := Lib.hid (ext_trans B15.out hA)
                                have Rx16 : Hid (VrecRow w16 jx vx lx) := own_keep Rx15.out hA
                                have Ry16 : Hid (VrecRow w16 jy vy lx) := own_keep Ry15.out hA
                                have Rz16 : Hid (VrecRow w16 jz vz lx) := own_keep Rz15.out hA
                                have Rq16 : Hid (VrecRow w16 bq vq lx) := own_keep Rq15.out hA
                                clear B15 Rx15 Ry15 Rz15 Rq15
                                clear hA
                                as_aux_lemma =>
                                  go_wp2_with ((refine wpList_val rfl (bl_lrc1 _ (fun _ => rfl) _ _ 112 113 114 115 116 117 0 0 0 0 0 0 rfl rfl rfl rfl rfl rfl rfl) ?_))
                                  rw [← HW16.out]
                                  refine (errs_zero w16 w15.heap.size 6 6 (by omega) (fun i hi => (by
                                    match i, hi with
                                    | 0, _ => exact EE.out.cell 0 rfl
                                    | 1, _ => exact EE.out.cell 1 rfl
                                    | 2, _ => exact EE.out.cell 2 rfl
                                    | 3, _ => exact EE.out.cell 3 rfl
                                    | 4, _ => exact EE.out.cell 4 rfl
                                    | 5, _ => exact EE.out.cell 5 rfl))).mono ?_
                                  rintro e w16b ⟨rfl, hw8⟩
                                  subst hw8
                                  clear EE HW16
                                  as_aux_lemma =>
                                    go_wp2_with fail
                                    refine (eqR_any Rx16.out Ry16.out (by omega)).mono ?_
                                    rintro e w17 ⟨rfl, hb⟩
                                    have B17 := Lib.hid (ext_trans B16.out hb)
                                    have Rx17 : Hid (VrecRow w17 jx vx lx) := own_keep Rx16.out hb
                                    have Rz17 : Hid (VrecRow w17 jz vz lx) := own_keep Rz16.out hb
                                    have Rq17 : Hid (VrecRow w17 bq vq lx) := own_keep Rq16.out hb
                                    clear B16 Rx16 Ry16 Rz16 Rq16
                                    clear hb
                                    as_aux_lemma =>
                                      go_wp2_with fail
                                      refine (eqR_any Rx17.out Rz17.out (by omega)).mono ?_
                                      rintro e w18 ⟨rfl, hb⟩
                                      have B18 := Lib.hid (ext_trans B17.out hb)
                                      have Rx18 : Hid (VrecRow w18 jx vx lx) := own_keep Rx17.out hb
                                      have Rq18 : Hid (VrecRow w18 bq vq lx) := own_keep Rq17.out hb
                                      clear B17 Rx17 Rz17 Rq17
                                      clear hb
                                      as_aux_lemma =>
                                        go_wp2_with fail
                                        refine (eqR_any Rx18.out Rq18.out (by omega)).mono ?_
                                        rintro e w19 ⟨rfl, hb⟩
                                        have B19 := Lib.hid (ext_trans B18.out hb)
                                        clear B18 Rx18 Rq18
                                        clear hb
                                        as_aux_lemma =>
                                          go_wp2_with fail
                                          refine (ready_true _ (HFW.out _ B19.out).2).mono ?_
                                          rintro e w20 ⟨rfl, hb⟩
                                          have HF := Lib.hid (HFW.out w20 (ext_trans B19.out hb)).1
                                          clear hb
                                          as_aux_lemma =>
                                            go_wp2_with fail
                                            go_ret
                                            exact ⟨rfl, HF.out⟩
end Go.Proofs.YtleagenhnchjdaaGreatDoor
