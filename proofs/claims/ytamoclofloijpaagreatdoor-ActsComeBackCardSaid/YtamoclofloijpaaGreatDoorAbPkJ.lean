/- What is proved here: lemmas and contracts for the statement, put together out of smaller texts (LawAct). No condition beyond those stated. -/
import Derived.Test.YtamoclofloijpaaGreatDoorAbPkE
import Derived.Test.YtamoclofloijpaaGreatDoorAbPkH
import Derived.Test.YtamoclofloijpaaGreatDoorAbPkI
import Derived.Maps.AppendAt
set_option linter.unusedVariables false
set_option linter.unusedSimpArgs false
namespace Go.Proofs.YtamoclofloijpaaGreatDoor
open Go.RowKit Go.Sort Go.Lib

theorem wp_append_atA {P : Program} {w : World} {o : Oper} {a : Act} {K : Act → World → Prop} {Q : Exit → Act → World → Prop} (s x : Operand) (t : TypeId)
    (ho : o.op = .call { callee := .builtin .append, args := #[s, x], argTypes := #[t, t] })
    (base : Nat) (e : TypeId) (i : TypeInfo) (z : Value) (size bytes : Nat) (ht : P.underlying t = some (.slice e)) (hi : P.info? e = some i) (hz : i.zero = some z)
    (hsize : i.size = size) (hby : i.bytes = bytes) (hzs : z.cells.size = size) (hsz : 0 < size)
    (v : Value) (n : Nat) (xs : List Value) (hs : a.eval s = v) (hown : w.ownsRow base e size v n xs)
    (ad : Addr) (m c : Nat) (news : List Value) (hx : a.eval x = .slice (some ad) m c) (hl : news.length = m * size) (hnews : ∀ j u, news[j]? = some u → w.cell? (ad.add j) = some u) (h1 : ∀ u ∈ news, u.oneCell' = true)
    (h63 : n + m ≤ maxLen) (hbytes : (n + m) * bytes ≤ 140737488355328) (hbase : base ≤ w.heap.size)
    (h : ∀ v' w', w'.ownsRow base e size v' (n + m) (xs ++ news) → w.grownBy w' v.ownBlock → (v'.ownBlock = v.ownBlock ∨ v'.ownBlock = some w.heap.size) → K (a.put o.dst v') w') : o.wp P a w K Q := by
  obtain ⟨v', w', hr, h2, h3, h4, h5⟩ := run_append_own_at (P := P) w base t o.type e i z size bytes ht hi hz hsize hby hzs hsz v n xs hown ad m c news hl hnews h1 h63 hbytes hbase
  unfold Oper.wp execOp
  simp only [ho, resolve, invoke, builtin, Sem.run_bind, Sem.run_pure, Result.andThen_ok, List.map_toArray, List.map_cons, List.map_nil, hs, hx, hr]
  exact h v' w' h2 h3 h5
/-- Two rows of acts of the law's own, that lie apart. -/
structure PQ (S k PB : Nat) (w2 wr : World) (vp vq : Value) (pl ql : List Vact) : Prop where
  p : VactRow wr PB vp pl
  q : VactRow wr PB vq ql
  apart : ∀ b, vp.ownBlock = some b → vq.ownBlock ≠ some b
  st : StreamOk wr S k
  kp : Keeps S w2 wr
  base : PB = w2.heap.size
  sl : S < PB
theorem PQ.swap {S k PB : Nat} {w2 wr : World} {vp vq : Value} {pl ql : List Vact} (h : PQ S k PB w2 wr vp vq pl ql) : PQ S k PB w2 wr vq vp ql pl := ⟨h.q, h.p, fun b hb e => h.apart b e hb, h.st, h.kp, h.base, h.sl⟩
theorem PQ.below {S k PB : Nat} {w2 wr w' : World} {vp vq : Value} {pl ql : List Vact} (h : PQ S k PB w2 wr vp vq pl ql) (hb : Below wr.heap.size wr w') : PQ S k PB w2 w' vp vq pl ql := ⟨own_keep h.p hb, own_keep h.q hb, h.apart, h.st.below hb, h.kp.ext hb, h.base, h.sl⟩
theorem PQ.keeps {S k k' PB : Nat} {w2 wr w' : World} {vp vq : Value} {pl ql : List Vact} (h : PQ S k PB w2 wr vp vq pl ql) (hk : Keeps S wr w') (hs : StreamOk w' S k') : PQ S k' PB w2 w' vp vq pl ql := ⟨own_keeps h.p hk h.sl, own_keeps h.q hk h.sl, h.apart, hs, h.kp.trans hk, h.base, h.sl⟩
theorem PQ.add {S k PB : Nat} {w2 wn wx : World} {vp vq vn : Value} {pl ql : List Vact} {y : Vact} (h : PQ S k PB w2 wn vp vq pl ql) (hon : wx.ownsRow PB 45 6 vn (pl.length + 1) ((pl.map Vact.cells).flatten ++ y.cells)) (hgn : wn.grownBy wx vp.ownBlock) (hat : vn.ownBlock = vp.ownBlock ∨ vn.ownBlock = some wn.heap.size) : PQ S k PB w2 wx vn vq (pl ++ [y]) ql := by
  have hlt : ∀ b, vp.ownBlock = some b → PB ≤ b := fun b hb => (World.ownsRow.lt h.p b hb).1
  have hqlt : ∀ b, vq.ownBlock = some b → b < wn.heap.size := fun b hb => (World.ownsRow.lt h.q b hb).2
  have hb := h.base
  have hs := h.sl
  refine ⟨?_, own_gb h.q hgn (fun b hb e => h.apart b e hb), fun b hb e => ?_, ?_, ?_, h.base, h.sl⟩
  · unfold VactRow
    rw [List.map_append, List.flatten_append, List.length_append]
    simp only [List.map_cons, List.map_nil, List.flatten_cons, List.flatten_nil, List.append_nil, List.length_cons, List.length_nil]
    exact hon
  · rcases hat with h1 | h1
    · exact h.apart b (h1 ▸ hb) e
    · rw [h1] at hb; injection hb with hb; have := hqlt b e; omega
  · exact h.st.upto ⟨hgn.os, hgn.tape, hgn.output, hgn.size, fun j hj => hgn.block j (by have := h.st.lt; omega) (fun e => by have := hlt j e.symm; omega)⟩
  · exact ⟨hgn.os.trans h.kp.os, hgn.tape.trans h.kp.tape, hgn.output.trans h.kp.output, Nat.le_trans h.kp.size hgn.size, fun j hj hjS => (hgn.block j (Nat.lt_of_lt_of_le hj h.kp.size) (fun e => by have := hlt j e.symm; omega)).trans (h.kp.block j hj hjS)⟩
theorem sub_snoc {m x : List Vact} {j : Nat} (hj : j < x.length) (h : m.Sublist (x.take j)) : (m ++ [x.getD j default]).Sublist (x.take (j + 1)) ∧ m.Sublist (x.take (j + 1)) := by
  have e : x.take (j + 1) = x.take j ++ [x.getD j default] := by
    rw [List.take_add_one, List.getElem?_eq_getElem hj, List.getD_eq_getElem?_getD, List.getElem?_eq_getElem hj]
    rfl
  rw [e]
  exact ⟨h.append (List.Sublist.refl _), h.trans (List.sublist_append_left _ _)⟩
theorem all_snoc {x p q p' q' : List Vact} {j : Nat} (hj : j < x.length) (h : ∀ a ∈ x.take j, a ∈ p ∨ a ∈ q) (hp : ∀ a ∈ p, a ∈ p') (hq : ∀ a ∈ q, a ∈ q') (hy : x.getD j default ∈ p' ∨ x.getD j default ∈ q') : ∀ a ∈ x.take (j + 1), a ∈ p' ∨ a ∈ q' := fun a ha => by
  have e : x.take (j + 1) = x.take j ++ [x.getD j default] := by
    rw [List.take_add_one, List.getElem?_eq_getElem hj, List.getD_eq_getElem?_getD, List.getElem?_eq_getElem hj]
    rfl
  rw [e] at ha
  rcases List.mem_append.1 ha with ha | ha
  · exact (h a ha).imp (hp a) (hq a)
  · rw [List.mem_singleton.1 ha]; exact hy
theorem actBd {x : List Vact} (h : ∀ a ∈ x, ActB a) : ∀ a ∈ x, a.frm.length ≤ 1000 ∧ a.box.length ≤ 1000 ∧ a.id.length ≤ 1000 := fun a ha => by
  have := h a ha
  exact ⟨by have := this.frm; omega, by have := this.box; omega, by have := this.id; omega⟩
theorem bl_lac0 (e : Operand → Value) (he : ∀ v, e (.const v) = v) (o : Oper) (w : World) (i0 : Nat) (z0_0 : Int) (p0_1 : ByteArray) (p0_2 : ByteArray) (z0_3 : Int) (z0_4 : Int) (p0_5 : ByteArray) (ho : o.op = .buildSlice 42 1 #[(0, .tmp i0)]) (h0 : e (.tmp i0) = .agg #[.int .i64 z0_0, .string p0_1, .string p0_2, .int .i64 z0_3, .int .i64 z0_4, .string p0_5]) :
   (execOp e o).run Tryz.prog w = .ok (.value (.slice (some ⟨w.heap.size, 0, none⟩) 1 1)) (w.alloc (.cells #[.int .i64 z0_0, .string p0_1, .string p0_2, .int .i64 z0_3, .int .i64 z0_4, .string p0_5] 45)) := by
  unfold execOp
  rw [ho]
  simp only [List.map_toArray, List.map_cons, List.map_nil, h0]
  kernel_rfl
theorem bl_lac1 (e : Operand → Value) (he : ∀ v, e (.const v) = v) (o : Oper) (w : World) (i0 : Nat) (i1 : Nat) (i2 : Nat) (i3 : Nat) (z0 : Int) (z1 : Int) (z2 : Int) (z3 : Int) (ho : o.op = .buildSlice 108 4 #[(0, .tmp i0), (1, .tmp i1), (2, .tmp i2), (3, .tmp i3)]) (h0 : e (.tmp i0) = .int .i64 z0) (h1 : e (.tmp i1) = .int .i64 z1) (h2 : e (.tmp i2) = .int .i64 z2) (h3 : e (.tmp i3) = .int .i64 z3) :
   (execOp e o).run Tryz.prog w = .ok (.value (.slice (some ⟨w.heap.size, 0, none⟩) 4 4)) (w.alloc (.cells #[.int .i64 z0, .int .i64 z1, .int .i64 z2, .int .i64 z3] 31)) := by
  unfold execOp
  rw [ho]
  simp only [List.map_toArray, List.map_cons, List.map_nil, h0, h1, h2, h3]
  kernel_rfl
set_option maxRecDepth 100000 in
set_option maxHeartbeats 80000000 in
theorem acts_true (w : World) (a0 : Option Addr) (len cap : Nat) (zs : List Int) (hr : ArgRow w a0 len cap zs) (ht : TabAt w) (hL : LibsW w.heap.size w) :
    Calls Tryz.prog 4 #[.slice a0 len cap] w fun e w' => e = .returned (.bool true) ∧ Below w.heap.size w w' := by
  obtain ⟨i0, hi0, hz0, hz1, hz2⟩ := info_parts Tryz.actInfo
  have HS0 := Lib.hid (stream_start hr)
  have HT0 : Hid (TabAt (w.alloc (.cells #[.slice a0 len cap, .int .i64 0] 25))) := ht.below (ext_alloc (Below.refl _ _))
  have HTN : Hid (2 ≠ w.heap.size) := by have := ht.1; show _ ≠ _; omega
  have HL0 : Hid (LibsW w.heap.size (w.alloc (.cells #[.slice a0 len cap, .int .i64 0] 25))) := hL.below (ext_alloc (Below.refl _ _)) (Nat.le_refl _)
  have HEND : Hid (∀ W, Keeps w.heap.size (w.alloc (.cells #[.slice a0 len cap, .int .i64 0] 25)) W → Below w.heap.size w W) := fun W h => law_end h
  have hsz : w.heap.size < (w.alloc (.cells #[.slice a0 len cap, .int .i64 0] 25)).heap.size := by simp
  clear hr ht hL
  go_enter Tryz.func4, Tryz.ntmps4
  go_wp2_with fail
  refine (range_any w.heap.size 0 0 10 _ HS0.out (by omega) (by omega) (by omega) (by omega)).mono ?_
  rintro e w1 ⟨m, rfl, hm0, hm1, hst, hk'⟩
  obtain ⟨mn, rfl⟩ := Int.eq_ofNat_of_zero_le hm0
  have hmn : mn ≤ 10 := by omega
  have HS1 := Lib.hid hst
  have HK1 := Lib.hid hk'
  have hs1 : w.heap.size < w1.heap.size := Nat.lt_of_lt_of_le hsz hk'.size
  clear hst hk' HS0 hm0 hm1
  as_aux_lemma =>
    go_wp2_with fail
    refine (rightActs_any w.heap.size (0 + 1) mn _ HS1.out (by omega) hmn).mono ?_
    rintro e w2 ⟨v4, x, rfl, hrow, hxl, hab, hok, hst, hk'⟩
    have HS2 := Lib.hid hst
    have HK2 := Lib.hid (HK1.out.trans hk')
    have hs2 : w.heap.size < w2.heap.size := Nat.lt_of_lt_of_le hs1 hk'.size
    have HXR : Hid (∀ W, Keeps w.heap.size w2 W → VactRow W w1.heap.size v4 x) := fun W hW => own_keeps hrow hW hs1
    have HLW : Hid (∀ W, Keeps w.heap.size w2 W → LibsW w.heap.size W ∧ w.heap.size ≤ W.heap.size) := fun W hW => ⟨HL0.out.keeps (HK2.out.trans hW) hsz, Nat.le_trans (Nat.le_of_lt hs2) hW.size⟩
    have HFIN : Hid (∀ W, Keeps w.heap.size w2 W → Below w.heap.size w W ∧ TabAt W) := fun W hW => ⟨HEND.out W (HK2.out.trans hW), HT0.out.keeps (HK2.out.trans hW) HTN.out⟩
    have HOK := Lib.hid hok
    have HAB := Lib.hid hab
    have hx10 : x.length ≤ 10 := by omega
    obtain ⟨PB, hPB⟩ : ∃ PB, PB = w2.heap.size := ⟨_, rfl⟩
    have HPQ0 : Hid (PQ w.heap.size (1002 + 0) PB w2 w2 (.slice none 0 0) (.slice none 0 0) [] []) := ⟨World.ownsRow_nil _ _ _ _, World.ownsRow_nil _ _ _ _, fun b hb => (by cases hb), HS2.out.mono (by omega), Keeps.refl _ _, hPB, by omega⟩
    have hv := hrow
    unfold VactRow at hv
    obtain ⟨xa, xc, rfl⟩ := own_shape hv
    clear hv hst hk' hrow hok hab HS1 HK1 HS2 HT0 HL0 HEND HTN hPB HK2
    obtain ⟨n, hn⟩ : ∃ n, n = x.length := ⟨_, rfl⟩
    have HN := Lib.hid hn
    rw [← hn] at HXR hx10 ⊢
    clear hn
    as_aux_lemma =>
      go_wp2_with fail
      go_loopw [5, 6, 27] (fun vp vq it wr => ∃ (j : Nat) (pl ql : List Vact), j ≤ n ∧ it = .int .i64 j ∧ Hid (pl.Sublist (x.take j) ∧ ql.Sublist (x.take j) ∧ ∀ a ∈ x.take j, a ∈ pl ∨ a ∈ ql) ∧ Hid (PQ w.heap.size (1002 + j) PB w2 wr vp vq pl ql)) (fun _ _ it _ => n - (intOf it).toNat)
      case atStart => exact ⟨0, [], [], Nat.zero_le _, rfl, ⟨List.nil_sublist _, List.nil_sublist _, fun a ha => (by rw [List.take_zero] at ha; cases ha)⟩, HPQ0⟩
      case round =>
        clear HPQ0
        obtain ⟨j, pl, ql, hj, rfl, HSUB, HPQ⟩ := hrel
        obtain ⟨vp, rfl⟩ : ∃ z : Value, z = u5 := ⟨_, rfl⟩
        obtain ⟨vq, rfl⟩ : ∃ z : Value, z = u6 := ⟨_, rfl⟩
        by_cases hlt : j < n
        case neg =>
          obtain rfl : j = n := by omega
          have hin : ¬ ((j : Int) < (j : Int)) := by omega
          have hsub : pl.Sublist x ∧ ql.Sublist x ∧ ∀ a ∈ x, a ∈ pl ∨ a ∈ ql := by
            have h9 := HSUB.out
            rw [List.take_of_length_le (by have := HN.out; omega)] at h9
            exact h9
          have HX0 : Hid (VactRow wr w1.heap.size (.slice xa j xc) x) := HXR.out wr HPQ.out.kp
          have HKW : Hid (∀ W, Below wr.heap.size wr W → Keeps w.heap.size w2 W) := fun W hW => HPQ.out.kp.ext hW
          have HM1 : Hid (∀ W, Below wr.heap.size wr W → Calls Tryz.prog 14 #[vp, vq] W (MergeP x W)) := fun W hW => mergeA_any W x pl ql HOK.out (actBd HAB.out) (by have := HN.out; omega) hsub.1 hsub.2.1 hsub.2.2 PB PB vp vq (own_keep HPQ.out.p hW) (own_keep HPQ.out.q hW)
          have HM2 : Hid (∀ W, Below wr.heap.size wr W → Calls Tryz.prog 14 #[vq, vp] W (MergeP x W)) := fun W hW => mergeA_any W x ql pl HOK.out (actBd HAB.out) (by have := HN.out; omega) hsub.2.1 hsub.1 (fun a ha => (hsub.2.2 a ha).symm) PB PB vq vp (own_keep HPQ.out.q hW) (own_keep HPQ.out.p hW)
          have HTX : Hid (∀ W, Below wr.heap.size wr W → Calls Tryz.prog 15 #[.slice xa j xc] W (TextQ (actsT x) W)) := fun W hW => textA_any W w1.heap.size _ x (own_keep HX0.out hW) (by have := HN.out; omega) HOK.out HAB.out w.heap.size (HLW.out W (HKW.out W hW)).1.tab (HLW.out W (HKW.out W hW)).2
          have HRD : Hid (∀ W, Below wr.heap.size wr W → Calls Tryz.prog 16 #[.string ⟨(actsT x).toArray⟩] W fun e w' => ∃ v, e = .returned (.tuple #[v, .int .i64 0, .int .i64 0]) ∧ VactRow w' W.heap.size v x ∧ Below W.heap.size W w') := fun W hW => readA_any w.heap.size W x HOK.out HAB.out (by have := HN.out; omega) (HLW.out W (HKW.out W hW)).1 (HLW.out W (HKW.out W hW)).2
          have HEQ : Hid (∀ W, Below wr.heap.size wr W → ∀ v b, VactRow W b v x → Calls Tryz.prog 18 #[v, .slice xa j xc] W (BoolP true W)) := fun W hW v b hv => eqA_any hv (own_keep HX0.out hW) (by have := HN.out; omega)
          have HFW : Hid (∀ W, Below wr.heap.size wr W → Below w.heap.size w W ∧ TabAt W) := fun W hW => HFIN.out W (HKW.out W hW)
          clear hsub HX0 HKW HPQ HSUB HXR HLW HFIN HOK HAB
          unfold MergeP at HM1 HM2
          unfold TextQ at HTX
          generalize actsT x = T at HTX HRD
          as_aux_lemma =>
            go_wp2_with fail
            refine (HM1.out _ (Below.refl _ _)).mono ?_
            rintro e w3 ⟨v9, rfl, hr9, hb⟩
            have B3 : Hid (Below wr.heap.size wr w3) := hb
            have R9 := Lib.hid hr9
            clear hb hr9
            as_aux_lemma =>
              go_wp2_with fail
              refine (HM2.out _ B3.out).mono ?_
              rintro e w4 ⟨v11, rfl, hr11, hb⟩
              have B4 := Lib.hid (ext_trans B3.out hb)
              have R9b : Hid (VactRow w4 _ v9 x) := own_keep R9.out hb
              have R11 := Lib.hid hr11
              clear hb hr11 B3 R9
              as_aux_lemma =>
                go_wp2_with fail
                refine (HTX.out _ B4.out).mono ?_
                rintro e w5 ⟨rfl, hb⟩
                have B5 := Lib.hid (ext_trans B4.out hb)
                have R9c : Hid (VactRow w5 _ v9 x) := own_keep R9b.out hb
                have R11b : Hid (VactRow w5 _ v11 x) := own_keep R11.out hb
                clear hb B4 R9b R11
                as_aux_lemma =>
                  go_wp2_with fail
                  refine (HRD.out _ B5.out).mono ?_
                  rintro e w6 ⟨v15, rfl, hr15, hb⟩
                  have B6 := Lib.hid (ext_trans B5.out hb)
                  have R9d : Hid (VactRow w6 _ v9 x) := own_keep R9c.out hb
                  have R11c : Hid (VactRow w6 _ v11 x) := own_keep R11b.out hb
                  have R15 := Lib.hid hr15
                  clear hb hr15 B5 R9c R11b
                  have hA : Below w6.heap.size w6 (w6.alloc (.cells #[.int .i64 0, .int .i64 0, .int .i64 0, .int .i64 0] 31)) := ext_alloc (Below.refl _ _)
                  have E7 : Hid (Blk (w6.alloc (.cells #[.int .i64 0, .int .i64 0, .int .i64 0, .int .i64 0] 31)) w6.heap.size [.int .i64 0, .int .i64 0, .int .i64 0, .int .i64 0] 31) := Blk.new _ _ _
                  have B7 := Lib.hid (ext_trans B6.out hA)
                  have R9e : Hid (VactRow (w6.alloc (.cells #[.int .i64 0, .int .i64 0, .int .i64 0, .int .i64 0] 31)) _ v9 x) := own_keep R9d.out hA
                  have R11d : Hid (VactRow (w6.alloc (.cells #[.int .i64 0, .int .i64 0, .int .i64 0, .int .i64 0] 31)) _ v11 x) := own_keep R11c.out hA
                  have R15b : Hid (VactRow (w6.alloc (.cells #[.int .i64 0, .int .i64 0, .int .i64 0, .int .i64 0] 31)) _ v15 x) := own_keep R15.out hA
                  clear hA B6 R9d R11c R15 HM1 HM2 HTX HRD
                  as_aux_lemma =>
                    go_wp2_with ((refine wpList_val rfl (bl_lac1 _ (fun _ => rfl) _ _ 77 78 79 80 0 0 0 0 rfl rfl rfl rfl rfl) ?_))
                    generalize (w6.alloc (.cells #[.int .i64 0, .int .i64 0, .int .i64 0, .int .i64 0] 31)) = w7 at E7 B7 R9e R11d R15b ⊢
                    refine (errs_zero w7 w6.heap.size 4 4 (by omega) (fun i hi => (by
                      match i, hi with
                      | 0, _ => exact E7.out.cell 0 rfl
                      | 1, _ => exact E7.out.cell 1 rfl
                      | 2, _ => exact E7.out.cell 2 rfl
                      | 3, _ => exact E7.out.cell 3 rfl))).mono ?_
                    rintro e w8 ⟨rfl, hw8⟩
                    subst hw8
                    clear E7
                    as_aux_lemma =>
                      go_wp2_with fail
                      refine (HEQ.out _ B7.out v9 _ R9e.out).mono ?_
                      rintro e w8 ⟨rfl, hb⟩
                      have B8 := Lib.hid (ext_trans B7.out hb)
                      have R11e : Hid (VactRow w8 _ v11 x) := own_keep R11d.out hb
                      have R15c : Hid (VactRow w8 _ v15 x) := own_keep R15b.out hb
                      clear hb B7 R9e R11d R15b
                      as_aux_lemma =>
                        go_wp2_with fail
                        refine (HEQ.out _ B8.out v11 _ R11e.out).mono ?_
                        rintro e w9 ⟨rfl, hb⟩
                        have B9 := Lib.hid (ext_trans B8.out hb)
                        have R15d : Hid (VactRow w9 _ v15 x) := own_keep R15c.out hb
                        clear hb B8 R11e R15c
                        as_aux_lemma =>
                          go_wp2_with fail
                          refine (HEQ.out _ B9.out v15 _ R15d.out).mono ?_
                          rintro e w10 ⟨rfl, hb⟩
                          have B10 := Lib.hid (ext_trans B9.out hb)
                          have HTB := Lib.hid (HFW.out w10 B10.out).2
                          clear hb B9 R15d HEQ
                          as_aux_lemma =>
                            go_wp2_with fail
                            refine (ready_true _ HTB.out).mono ?_
                            rintro e w11 ⟨rfl, hb⟩
                            have HF := Lib.hid (HFW.out w11 (ext_trans B10.out hb)).1
                            clear hb
                            as_aux_lemma =>
                              go_wp2_with fail
                              go_ret
                              exact ⟨rfl, HF.out⟩
        have hin : (j : Int) < (n : Int) := by omega
        have hjl : j < x.length := by have := HN.out; omega
        have hO : wr.ownsRow w1.heap.size 45 6 (.slice xa n xc) n ((x.map Vact.cells).flatten) := by
          have := HXR.out wr HPQ.out.kp
          unfold VactRow at this
          rw [← HN.out] at this
          exact this
        obtain ⟨g, rfl, hg0, hgw⟩ := own_pos hO (by omega)
        have d0 := own_field Vact.cells (fun _ => rfl) hO j 0 default hjl (by omega) rfl
        have d1 := own_field Vact.cells (fun _ => rfl) hO j 1 default hjl (by omega) rfl
        have d2 := own_field Vact.cells (fun _ => rfl) hO j 2 default hjl (by omega) rfl
        have d3 := own_field Vact.cells (fun _ => rfl) hO j 3 default hjl (by omega) rfl
        have d4 := own_field Vact.cells (fun _ => rfl) hO j 4 default hjl (by omega) rfl
        have d5 := own_field Vact.cells (fun _ => rfl) hO j 5 default hjl (by omega) rfl
        rw [Nat.add_zero] at d0
        have hplen : pl.length ≤ 10 := by have := HSUB.out.1.length_le; rw [List.length_take] at this; omega
        have hqlen : ql.length ≤ 10 := by have := HSUB.out.2.1.length_le; rw [List.length_take] at this; omega
        have HSP := Lib.hid (sub_snoc hjl HSUB.out.1)
        have HSQ := Lib.hid (sub_snoc hjl HSUB.out.2.1)
        have HAS : Hid (∀ p' q' : List Vact, (∀ a ∈ pl, a ∈ p') → (∀ a ∈ ql, a ∈ q') → (x.getD j default ∈ p' ∨ x.getD j default ∈ q') → ∀ a ∈ x.take (j + 1), a ∈ p' ∨ a ∈ q') := fun p' q' h1 h2 h3 => all_snoc hjl HSUB.out.2.2 h1 h2 h3
        obtain ⟨y, hy⟩ : ∃ y, y = x.getD j default := ⟨_, rfl⟩
        rw [← hy] at d0 d1 d2 d3 d4 d5 HSP HSQ HAS
        clear hy hO hjl HSUB
        have X1 : Hid (Blk (wr.alloc (.cells #[.int .i64 y.at_, .string ⟨y.box.toArray⟩, .string ⟨y.id.toArray⟩, .int .i64 y.kind, .int .i64 y.long, .string ⟨y.frm.toArray⟩] 45)) wr.heap.size [.int .i64 y.at_, .string ⟨y.box.toArray⟩, .string ⟨y.id.toArray⟩, .int .i64 y.kind, .int .i64 y.long, .string ⟨y.frm.toArray⟩] 45) := Blk.new _ _ _
        have HPB := Lib.hid (HPQ.out.below (ext_alloc (o := .cells #[.int .i64 y.at_, .string ⟨y.box.toArray⟩, .string ⟨y.id.toArray⟩, .int .i64 y.kind, .int .i64 y.long, .string ⟨y.frm.toArray⟩] 45) (Below.refl wr.heap.size wr)))
        have HNP : Hid (vp.ownBlock ≠ some wr.heap.size) := own_before HPQ.out.p (Nat.le_refl _)
        have HNQ : Hid (vq.ownBlock ≠ some wr.heap.size) := own_before HPQ.out.q (Nat.le_refl _)
        have HXS : Hid (wr.heap.size ≠ w.heap.size) := by have := HPQ.out.st.lt; show _ ≠ _; omega
        clear HPQ
        as_aux_lemma =>
          go_upto_region 7 with (fail)
          clear d0 d1 d2 d3 d4 d5 hgw
          generalize (wr.alloc (.cells #[.int .i64 y.at_, .string ⟨y.box.toArray⟩, .string ⟨y.id.toArray⟩, .int .i64 y.kind, .int .i64 y.long, .string ⟨y.frm.toArray⟩] 45)) = w6 at X1 HPB ⊢
          generalize wr.heap.size = XB at X1 HNP HNQ HXS ⊢
          as_aux_lemma =>
            go_wp2_with fail
            refine (next_any w.heap.size (1002 + j) 3 _ HPB.out.st (by omega) (by omega) (by omega)).mono ?_
            rintro e w7 ⟨sw, rfl, sw0, sw1, hst, hk'⟩
            have X7 := Lib.hid (X1.out.keeps hk' HXS.out)
            have HPQ : Hid (PQ w.heap.size (1002 + (j + 1)) PB w2 w7 vp vq pl ql) := HPB.out.keeps hk' hst
            clear hst hk' X1 HPB
            have hsw : sw = 0 ∨ sw = 1 ∨ sw = 2 := by omega
            clear sw0 sw1
            rcases hsw with rfl | rfl | rfl
            · skip
              obtain ⟨wn, hwn⟩ : ∃ w', w' = (w7.alloc (.cells #[.int .i64 y.at_, .string ⟨y.box.toArray⟩, .string ⟨y.id.toArray⟩, .int .i64 y.kind, .int .i64 y.long, .string ⟨y.frm.toArray⟩] 45)) := ⟨_, rfl⟩
              have hbn : Below w7.heap.size w7 wn := by rw [hwn]; exact ext_alloc (Below.refl _ _)
              have HPA := Lib.hid (HPQ.out.below hbn)
              have HWN := Lib.hid hwn
              have HNW : Hid (∀ j u, ([.int .i64 y.at_, .string ⟨y.box.toArray⟩, .string ⟨y.id.toArray⟩, .int .i64 y.kind, .int .i64 y.long, .string ⟨y.frm.toArray⟩] : List Value)[j]? = some u → wn.cell? ((⟨w7.heap.size, 0, none⟩ : Addr).add j) = some u) := fun j u hj => by
                rw [show (⟨w7.heap.size, 0, none⟩ : Addr).add j = ⟨w7.heap.size, j, none⟩ by cases j <;> simp [Addr.add]]
                rw [hwn]; exact (Blk.new w7 [.int .i64 y.at_, .string ⟨y.box.toArray⟩, .string ⟨y.id.toArray⟩, .int .i64 y.kind, .int .i64 y.long, .string ⟨y.frm.toArray⟩] 45).cell j hj
              have HLM : Hid (pl.length + 1 ≤ maxLen ∧ (pl.length + 1) * 72 ≤ 140737488355328) := ⟨by unfold maxLen; omega, by omega⟩
              have hbw : PB ≤ wn.heap.size := by have := HPA.out.kp.size; have := HPA.out.base; omega
              have HRG : Hid (w7.rangeAt XB 0 [.int .i64 y.at_, .string ⟨y.box.toArray⟩, .string ⟨y.id.toArray⟩, .int .i64 y.kind, .int .i64 y.long, .string ⟨y.frm.toArray⟩]) := fun j v hj => by rw [Nat.zero_add]; exact X7.out.cell j hj
              have HROW : Hid (wn.ownsRow PB 45 6 vp pl.length (((pl).map Vact.cells).flatten)) := HPA.out.p
              clear hbn hwn HPQ
              as_aux_lemma =>
                go_upto_region 13 with (first | (refine wpList_load_mid rfl 45 (.tmp 8) rfl XB 0 rfl [.int .i64 y.at_, .string ⟨y.box.toArray⟩, .string ⟨y.id.toArray⟩, .int .i64 y.kind, .int .i64 y.long, .string ⟨y.frm.toArray⟩] _ HRG.out Tryz.underlying45 rfl Tryz.actSz ?_) | ((refine wpList_val rfl (bl_lac0 _ (fun _ => rfl) _ _ 44 y.at_ ⟨y.box.toArray⟩ ⟨y.id.toArray⟩ y.kind y.long ⟨y.frm.toArray⟩ rfl rfl) ?_)) | (at_builtin; rw [← HWN.out]; refine wpList_append_own_at _ rfl (.tmp 43) (.tmp 45) 42 rfl PB 45 i0 (.agg #[.int .i64 0, .string ⟨#[]⟩, .string ⟨#[]⟩, .int .i64 0, .int .i64 0, .string ⟨#[]⟩]) 6 72 Tryz.underlying42 hi0 hz0 hz1 hz2 rfl (by decide) vp pl.length (((pl).map Vact.cells).flatten) rfl HROW.out ⟨w7.heap.size, 0, none⟩ 1 1 [.int .i64 y.at_, .string ⟨y.box.toArray⟩, .string ⟨y.id.toArray⟩, .int .i64 y.kind, .int .i64 y.long, .string ⟨y.frm.toArray⟩] rfl rfl HNW.out (by intro u hu; simp at hu; rcases hu with rfl | rfl | rfl | rfl | rfl | rfl <;> rfl) HLM.out.1 HLM.out.2 hbw ?_; intro vn wx hon hgn _ hat))
                have HPX := Lib.hid (HPA.out.add hon hgn hat)
                clear hon hgn hat HPA HWN HNW HLM HRG HROW X7
                as_aux_lemma =>
                  go_wp2_with fail
                  go_roundw
                  case rel => exact ⟨j + 1, (pl ++ [y]), ql, by omega, by go_num, ⟨HSP.out.1, HSQ.out.2, HAS.out _ _ (fun a h => List.mem_append_left _ h) (fun a h => h) (Or.inl (List.mem_append_right _ (List.mem_singleton.2 rfl)))⟩, HPX⟩
                  case measure => simp [intOf]; omega
            · skip
              obtain ⟨wn, hwn⟩ : ∃ w', w' = (w7.alloc (.cells #[.int .i64 y.at_, .string ⟨y.box.toArray⟩, .string ⟨y.id.toArray⟩, .int .i64 y.kind, .int .i64 y.long, .string ⟨y.frm.toArray⟩] 45)) := ⟨_, rfl⟩
              have hbn : Below w7.heap.size w7 wn := by rw [hwn]; exact ext_alloc (Below.refl _ _)
              have HPA := Lib.hid (HPQ.out.below hbn)
              have HWN := Lib.hid hwn
              have HNW : Hid (∀ j u, ([.int .i64 y.at_, .string ⟨y.box.toArray⟩, .string ⟨y.id.toArray⟩, .int .i64 y.kind, .int .i64 y.long, .string ⟨y.frm.toArray⟩] : List Value)[j]? = some u → wn.cell? ((⟨w7.heap.size, 0, none⟩ : Addr).add j) = some u) := fun j u hj => by
                rw [show (⟨w7.heap.size, 0, none⟩ : Addr).add j = ⟨w7.heap.size, j, none⟩ by cases j <;> simp [Addr.add]]
                rw [hwn]; exact (Blk.new w7 [.int .i64 y.at_, .string ⟨y.box.toArray⟩, .string ⟨y.id.toArray⟩, .int .i64 y.kind, .int .i64 y.long, .string ⟨y.frm.toArray⟩] 45).cell j hj
              have HLM : Hid (ql.length + 1 ≤ maxLen ∧ (ql.length + 1) * 72 ≤ 140737488355328) := ⟨by unfold maxLen; omega, by omega⟩
              have hbw : PB ≤ wn.heap.size := by have := HPA.out.kp.size; have := HPA.out.base; omega
              have HRG : Hid (w7.rangeAt XB 0 [.int .i64 y.at_, .string ⟨y.box.toArray⟩, .string ⟨y.id.toArray⟩, .int .i64 y.kind, .int .i64 y.long, .string ⟨y.frm.toArray⟩]) := fun j v hj => by rw [Nat.zero_add]; exact X7.out.cell j hj
              have HROW : Hid (wn.ownsRow PB 45 6 vq ql.length (((ql).map Vact.cells).flatten)) := HPA.out.q
              clear hbn hwn HPQ
              as_aux_lemma =>
                go_upto_region 13 with (first | (refine wpList_load_mid rfl 45 (.tmp 8) rfl XB 0 rfl [.int .i64 y.at_, .string ⟨y.box.toArray⟩, .string ⟨y.id.toArray⟩, .int .i64 y.kind, .int .i64 y.long, .string ⟨y.frm.toArray⟩] _ HRG.out Tryz.underlying45 rfl Tryz.actSz ?_) | ((refine wpList_val rfl (bl_lac0 _ (fun _ => rfl) _ _ 50 y.at_ ⟨y.box.toArray⟩ ⟨y.id.toArray⟩ y.kind y.long ⟨y.frm.toArray⟩ rfl rfl) ?_)) | (at_builtin; rw [← HWN.out]; refine wpList_append_own_at _ rfl (.tmp 49) (.tmp 51) 42 rfl PB 45 i0 (.agg #[.int .i64 0, .string ⟨#[]⟩, .string ⟨#[]⟩, .int .i64 0, .int .i64 0, .string ⟨#[]⟩]) 6 72 Tryz.underlying42 hi0 hz0 hz1 hz2 rfl (by decide) vq ql.length (((ql).map Vact.cells).flatten) rfl HROW.out ⟨w7.heap.size, 0, none⟩ 1 1 [.int .i64 y.at_, .string ⟨y.box.toArray⟩, .string ⟨y.id.toArray⟩, .int .i64 y.kind, .int .i64 y.long, .string ⟨y.frm.toArray⟩] rfl rfl HNW.out (by intro u hu; simp at hu; rcases hu with rfl | rfl | rfl | rfl | rfl | rfl <;> rfl) HLM.out.1 HLM.out.2 hbw ?_; intro vn wx hon hgn _ hat))
                have HPX := Lib.hid ((HPA.out.swap.add hon hgn hat).swap)
                clear hon hgn hat HPA HWN HNW HLM HRG HROW X7
                as_aux_lemma =>
                  go_wp2_with fail
                  go_roundw
                  case rel => exact ⟨j + 1, pl, (ql ++ [y]), by omega, by go_num, ⟨HSP.out.2, HSQ.out.1, HAS.out _ _ (fun a h => h) (fun a h => List.mem_append_left _ h) (Or.inr (List.mem_append_right _ (List.mem_singleton.2 rfl)))⟩, HPX⟩
                  case measure => simp [intOf]; omega
            · skip
              have hd : Below w7.heap.size w7 w7.drew := ext_drew (Below.refl _ _)
              have HPD := Lib.hid (HPQ.out.below hd)
              have XD := Lib.hid (X7.out.below hd)
              clear hd HPQ X7
              as_aux_lemma =>
                go_upto_region 8 with (fail)
                refine region_tree (S := fun W9 => Blk W9 XB [.int .i64 y.at_, .string ⟨y.box.toArray⟩, .string ⟨y.id.toArray⟩, .int .i64 y.kind, .int .i64 y.long, .string ⟨y.frm.toArray⟩] 45) (.yes 0 (.yes 1 (.yes 4 (.yes 5 (.two 2 6 (.two 3 6 (.one 6 (.one 7 (.yes 8 (.yes 9 .done)))) (.one 3 (.one 7 (.yes 8 (.yes 9 .done))))) (.one 2 (.one 3 (.one 7 (.yes 8 (.yes 9 .done)))))))))) (by kernel_rfl) (by kernel_rfl) rfl (by kernel_rfl) XD.out ?_
                generalize w7.drew = wd at HPD XD ⊢
                simp only [toP, List.getD_cons_zero, List.getD_cons_succ]
                refine tree_yes (v := vp) rfl (fun W9 hW => by clear hW; go_simp) (fun _ _ _ h => h) ?_
                simp only [Act.put, List.setIfInBounds_toArray, List.set_cons_zero, List.set_cons_succ]
                refine tree_yes (v := .agg #[.int .i64 y.at_, .string ⟨y.box.toArray⟩, .string ⟨y.id.toArray⟩, .int .i64 y.kind, .int .i64 y.long, .string ⟨y.frm.toArray⟩]) rfl (fun W9 hW => by have m0 := hW.cell 0 rfl; have m1 := hW.cell 1 rfl; have m2 := hW.cell 2 rfl; have m3 := hW.cell 3 rfl; have m4 := hW.cell 4 rfl; have m5 := hW.cell 5 rfl; clear hW; go_simp) (fun _ _ _ h => h) ?_
                simp only [Act.put, List.setIfInBounds_toArray, List.set_cons_zero, List.set_cons_succ]
                refine tree_yes (v := vq) rfl (fun W9 hW => by clear hW; go_simp) (fun _ _ _ h => h) ?_
                simp only [Act.put, List.setIfInBounds_toArray, List.set_cons_zero, List.set_cons_succ]
                refine tree_yes (v := .agg #[.int .i64 y.at_, .string ⟨y.box.toArray⟩, .string ⟨y.id.toArray⟩, .int .i64 y.kind, .int .i64 y.long, .string ⟨y.frm.toArray⟩]) rfl (fun W9 hW => by have m0 := hW.cell 0 rfl; have m1 := hW.cell 1 rfl; have m2 := hW.cell 2 rfl; have m3 := hW.cell 3 rfl; have m4 := hW.cell 4 rfl; have m5 := hW.cell 5 rfl; clear hW; go_simp) (fun _ _ _ h => h) ?_
                simp only [Act.put, List.setIfInBounds_toArray, List.set_cons_zero, List.set_cons_succ]
                refine tree_two rfl rfl ?_ ?_
                · skip
                  have hbu1_ : Below wd.heap.size wd (wd.alloc (.cells #[.int .i64 y.at_, .string ⟨y.box.toArray⟩, .string ⟨y.id.toArray⟩, .int .i64 y.kind, .int .i64 y.long, .string ⟨y.frm.toArray⟩] 45)) := ext_alloc (Below.refl _ _)
                  have Pu1_ := Lib.hid (HPD.out.below hbu1_)
                  have Xu1_ := Lib.hid (XD.out.below hbu1_)
                  have Nu1_ : Hid (∀ j u, ([.int .i64 y.at_, .string ⟨y.box.toArray⟩, .string ⟨y.id.toArray⟩, .int .i64 y.kind, .int .i64 y.long, .string ⟨y.frm.toArray⟩] : List Value)[j]? = some u → (wd.alloc (.cells #[.int .i64 y.at_, .string ⟨y.box.toArray⟩, .string ⟨y.id.toArray⟩, .int .i64 y.kind, .int .i64 y.long, .string ⟨y.frm.toArray⟩] 45)).cell? ((⟨wd.heap.size, 0, none⟩ : Addr).add j) = some u) := fun j u hj => by
                    rw [show (⟨wd.heap.size, 0, none⟩ : Addr).add j = ⟨wd.heap.size, j, none⟩ by cases j <;> simp [Addr.add]]
                    exact (Blk.new wd [.int .i64 y.at_, .string ⟨y.box.toArray⟩, .string ⟨y.id.toArray⟩, .int .i64 y.kind, .int .i64 y.long, .string ⟨y.frm.toArray⟩] 45).cell j hj
                  have NPu1_ : Hid (vp.ownBlock ≠ some wd.heap.size) := own_before HPD.out.p (Nat.le_refl _)
                  have NQu1_ : Hid (vq.ownBlock ≠ some wd.heap.size) := own_before HPD.out.q (Nat.le_refl _)
                  have L35 : Hid (wd.heap.size < (wd.alloc (.cells #[.int .i64 y.at_, .string ⟨y.box.toArray⟩, .string ⟨y.id.toArray⟩, .int .i64 y.kind, .int .i64 y.long, .string ⟨y.frm.toArray⟩] 45)).heap.size) := by show _ < _; simp
                  refine (wp_valX (bl_lac0 _ (fun _ => rfl) _ _ 34 y.at_ ⟨y.box.toArray⟩ ⟨y.id.toArray⟩ y.kind y.long ⟨y.frm.toArray⟩ rfl rfl) ⟨Xu1_.out, ?_⟩)
                  simp only [Act.put, List.setIfInBounds_toArray, List.set_cons_zero, List.set_cons_succ]
                  generalize (wd.alloc (.cells #[.int .i64 y.at_, .string ⟨y.box.toArray⟩, .string ⟨y.id.toArray⟩, .int .i64 y.kind, .int .i64 y.long, .string ⟨y.frm.toArray⟩] 45)) = wu1_ at Pu1_ Xu1_ Nu1_ L35 ⊢
                  obtain ⟨gu1_, hgu1_⟩ : ∃ g, g = wd.heap.size := ⟨_, rfl⟩
                  rw [← hgu1_] at Nu1_ L35 NPu1_ NQu1_ ⊢
                  clear hgu1_
                  have NGP35 := NPu1_
                  have NGQ35 := NQu1_
                  clear NPu1_ NQu1_
                  refine tree_two rfl rfl ?_ ?_
                  · skip
                    have hbwu3_ : PB ≤ wu1_.heap.size := by have := Pu1_.out.kp.size; have := Pu1_.out.base; omega
                    have Ru3_ : Hid (wu1_.ownsRow PB 45 6 vp pl.length ((pl.map Vact.cells).flatten)) := Pu1_.out.p
                    refine (wp_append_atA (.tmp 33) (.tmp 35) 42 rfl PB 45 i0 (.agg #[.int .i64 0, .string ⟨#[]⟩, .string ⟨#[]⟩, .int .i64 0, .int .i64 0, .string ⟨#[]⟩]) 6 72 Tryz.underlying42 hi0 hz0 hz1 hz2 rfl (by decide) vp pl.length ((pl.map Vact.cells).flatten) rfl Ru3_.out ⟨gu1_, 0, none⟩ 1 1 [.int .i64 y.at_, .string ⟨y.box.toArray⟩, .string ⟨y.id.toArray⟩, .int .i64 y.kind, .int .i64 y.long, .string ⟨y.frm.toArray⟩] rfl rfl Nu1_.out (by intro u hu; simp at hu; rcases hu with rfl | rfl | rfl | rfl | rfl | rfl <;> rfl) (by unfold maxLen; omega) (by omega) hbwu3_ ?_)
                    intro vnu3_ wu3_ hon hgn hat
                    have Xu3_ := Lib.hid (Xu1_.out.grown hgn HNP.out)
                    have Pu3_ := Lib.hid (Pu1_.out.add hon hgn hat)
                    refine ⟨Xu3_.out, ?_⟩
                    simp only [Act.put, List.setIfInBounds_toArray, List.set_cons_zero, List.set_cons_succ]
                    clear hon hgn hat
                    have hbu4_ : Below wu3_.heap.size wu3_ (wu3_.alloc (.cells #[.int .i64 y.at_, .string ⟨y.box.toArray⟩, .string ⟨y.id.toArray⟩, .int .i64 y.kind, .int .i64 y.long, .string ⟨y.frm.toArray⟩] 45)) := ext_alloc (Below.refl _ _)
                    have Pu4_ := Lib.hid (Pu3_.out.below hbu4_)
                    have Xu4_ := Lib.hid (Xu3_.out.below hbu4_)
                    have Nu4_ : Hid (∀ j u, ([.int .i64 y.at_, .string ⟨y.box.toArray⟩, .string ⟨y.id.toArray⟩, .int .i64 y.kind, .int .i64 y.long, .string ⟨y.frm.toArray⟩] : List Value)[j]? = some u → (wu3_.alloc (.cells #[.int .i64 y.at_, .string ⟨y.box.toArray⟩, .string ⟨y.id.toArray⟩, .int .i64 y.kind, .int .i64 y.long, .string ⟨y.frm.toArray⟩] 45)).cell? ((⟨wu3_.heap.size, 0, none⟩ : Addr).add j) = some u) := fun j u hj => by
                      rw [show (⟨wu3_.heap.size, 0, none⟩ : Addr).add j = ⟨wu3_.heap.size, j, none⟩ by cases j <;> simp [Addr.add]]
                      exact (Blk.new wu3_ [.int .i64 y.at_, .string ⟨y.box.toArray⟩, .string ⟨y.id.toArray⟩, .int .i64 y.kind, .int .i64 y.long, .string ⟨y.frm.toArray⟩] 45).cell j hj
                    have NPu4_ : Hid (vnu3_.ownBlock ≠ some wu3_.heap.size) := own_before Pu3_.out.p (Nat.le_refl _)
                    have NQu4_ : Hid (vq.ownBlock ≠ some wu3_.heap.size) := own_before Pu3_.out.q (Nat.le_refl _)
                    have L39 : Hid (wu3_.heap.size < (wu3_.alloc (.cells #[.int .i64 y.at_, .string ⟨y.box.toArray⟩, .string ⟨y.id.toArray⟩, .int .i64 y.kind, .int .i64 y.long, .string ⟨y.frm.toArray⟩] 45)).heap.size) := by show _ < _; simp
                    refine tree_one rfl (wp_valX (bl_lac0 _ (fun _ => rfl) _ _ 38 y.at_ ⟨y.box.toArray⟩ ⟨y.id.toArray⟩ y.kind y.long ⟨y.frm.toArray⟩ rfl rfl) ⟨Xu4_.out, ?_⟩)
                    simp only [Act.put, List.setIfInBounds_toArray, List.set_cons_zero, List.set_cons_succ]
                    generalize (wu3_.alloc (.cells #[.int .i64 y.at_, .string ⟨y.box.toArray⟩, .string ⟨y.id.toArray⟩, .int .i64 y.kind, .int .i64 y.long, .string ⟨y.frm.toArray⟩] 45)) = wu4_ at Pu4_ Xu4_ Nu4_ L39 ⊢
                    obtain ⟨gu4_, hgu4_⟩ : ∃ g, g = wu3_.heap.size := ⟨_, rfl⟩
                    rw [← hgu4_] at Nu4_ L39 NPu4_ NQu4_ ⊢
                    clear hgu4_
                    have NGP39 := NPu4_
                    have NGQ39 := NQu4_
                    clear NPu4_ NQu4_
                    have hbwu5_ : PB ≤ wu4_.heap.size := by have := Pu4_.out.kp.size; have := Pu4_.out.base; omega
                    have Ru5_ : Hid (wu4_.ownsRow PB 45 6 vq ql.length ((ql.map Vact.cells).flatten)) := Pu4_.out.q
                    refine tree_one rfl (wp_append_atA (.tmp 37) (.tmp 39) 42 rfl PB 45 i0 (.agg #[.int .i64 0, .string ⟨#[]⟩, .string ⟨#[]⟩, .int .i64 0, .int .i64 0, .string ⟨#[]⟩]) 6 72 Tryz.underlying42 hi0 hz0 hz1 hz2 rfl (by decide) vq ql.length ((ql.map Vact.cells).flatten) rfl Ru5_.out ⟨gu4_, 0, none⟩ 1 1 [.int .i64 y.at_, .string ⟨y.box.toArray⟩, .string ⟨y.id.toArray⟩, .int .i64 y.kind, .int .i64 y.long, .string ⟨y.frm.toArray⟩] rfl rfl Nu4_.out (by intro u hu; simp at hu; rcases hu with rfl | rfl | rfl | rfl | rfl | rfl <;> rfl) (by unfold maxLen; omega) (by omega) hbwu5_ ?_)
                    intro vnu5_ wu5_ hon hgn hat
                    have Xu5_ := Lib.hid (Xu4_.out.grown hgn HNQ.out)
                    have Pu5_ := Lib.hid ((Pu4_.out.swap.add hon hgn hat).swap)
                    refine ⟨Xu5_.out, ?_⟩
                    simp only [Act.put, List.setIfInBounds_toArray, List.set_cons_zero, List.set_cons_succ]
                    clear hon hgn hat
                    refine tree_yes (v := vnu3_) rfl (fun W9 hW => by clear hW; go_simp) (fun _ _ _ h => h) ?_
                    simp only [Act.put, List.setIfInBounds_toArray, List.set_cons_zero, List.set_cons_succ]
                    refine tree_yes (v := vnu5_) rfl (fun W9 hW => by clear hW; go_simp) (fun _ _ _ h => h) ?_
                    simp only [Act.put, List.setIfInBounds_toArray, List.set_cons_zero, List.set_cons_succ]
                    refine tree_done ?_
                    have HPX := Pu5_
                    as_aux_lemma =>
                      go_wp2_with fail
                      go_roundw
                      case rel => exact ⟨j + 1, (pl ++ [y]), (ql ++ [y]), by omega, by go_num, ⟨HSP.out.1, HSQ.out.1, HAS.out _ _ (fun a h => List.mem_append_left _ h) (fun a h => List.mem_append_left _ h) (Or.inl (List.mem_append_right _ (List.mem_singleton.2 rfl)))⟩, HPX⟩
                      case measure => simp [intOf]; omega
                  · skip
                    have hbu6_ : Below wu1_.heap.size wu1_ (wu1_.alloc (.cells #[.int .i64 y.at_, .string ⟨y.box.toArray⟩, .string ⟨y.id.toArray⟩, .int .i64 y.kind, .int .i64 y.long, .string ⟨y.frm.toArray⟩] 45)) := ext_alloc (Below.refl _ _)
                    have Pu6_ := Lib.hid (Pu1_.out.below hbu6_)
                    have Xu6_ := Lib.hid (Xu1_.out.below hbu6_)
                    have Nu6_ : Hid (∀ j u, ([.int .i64 y.at_, .string ⟨y.box.toArray⟩, .string ⟨y.id.toArray⟩, .int .i64 y.kind, .int .i64 y.long, .string ⟨y.frm.toArray⟩] : List Value)[j]? = some u → (wu1_.alloc (.cells #[.int .i64 y.at_, .string ⟨y.box.toArray⟩, .string ⟨y.id.toArray⟩, .int .i64 y.kind, .int .i64 y.long, .string ⟨y.frm.toArray⟩] 45)).cell? ((⟨wu1_.heap.size, 0, none⟩ : Addr).add j) = some u) := fun j u hj => by
                      rw [show (⟨wu1_.heap.size, 0, none⟩ : Addr).add j = ⟨wu1_.heap.size, j, none⟩ by cases j <;> simp [Addr.add]]
                      exact (Blk.new wu1_ [.int .i64 y.at_, .string ⟨y.box.toArray⟩, .string ⟨y.id.toArray⟩, .int .i64 y.kind, .int .i64 y.long, .string ⟨y.frm.toArray⟩] 45).cell j hj
                    have Mu6_35 : Hid (∀ j u, ([.int .i64 y.at_, .string ⟨y.box.toArray⟩, .string ⟨y.id.toArray⟩, .int .i64 y.kind, .int .i64 y.long, .string ⟨y.frm.toArray⟩] : List Value)[j]? = some u → (wu1_.alloc (.cells #[.int .i64 y.at_, .string ⟨y.box.toArray⟩, .string ⟨y.id.toArray⟩, .int .i64 y.kind, .int .i64 y.long, .string ⟨y.frm.toArray⟩] 45)).cell? ((⟨gu1_, 0, none⟩ : Addr).add j) = some u) := fun j u hj => (hbu6_.cell (p := (⟨gu1_, 0, none⟩ : Addr).add j) (by rw [show (⟨gu1_, 0, none⟩ : Addr).add j = ⟨gu1_, j, none⟩ by cases j <;> simp [Addr.add]]; exact L35.out)).trans (Nu1_.out j u hj)
                    have L35b : Hid (gu1_ < (wu1_.alloc (.cells #[.int .i64 y.at_, .string ⟨y.box.toArray⟩, .string ⟨y.id.toArray⟩, .int .i64 y.kind, .int .i64 y.long, .string ⟨y.frm.toArray⟩] 45)).heap.size) := Nat.lt_of_lt_of_le L35.out hbu6_.size
                    have NPu6_ : Hid (vp.ownBlock ≠ some wu1_.heap.size) := own_before Pu1_.out.p (Nat.le_refl _)
                    have NQu6_ : Hid (vq.ownBlock ≠ some wu1_.heap.size) := own_before Pu1_.out.q (Nat.le_refl _)
                    have L39 : Hid (wu1_.heap.size < (wu1_.alloc (.cells #[.int .i64 y.at_, .string ⟨y.box.toArray⟩, .string ⟨y.id.toArray⟩, .int .i64 y.kind, .int .i64 y.long, .string ⟨y.frm.toArray⟩] 45)).heap.size) := by show _ < _; simp
                    refine (wp_valX (bl_lac0 _ (fun _ => rfl) _ _ 38 y.at_ ⟨y.box.toArray⟩ ⟨y.id.toArray⟩ y.kind y.long ⟨y.frm.toArray⟩ rfl rfl) ⟨Xu6_.out, ?_⟩)
                    simp only [Act.put, List.setIfInBounds_toArray, List.set_cons_zero, List.set_cons_succ]
                    generalize (wu1_.alloc (.cells #[.int .i64 y.at_, .string ⟨y.box.toArray⟩, .string ⟨y.id.toArray⟩, .int .i64 y.kind, .int .i64 y.long, .string ⟨y.frm.toArray⟩] 45)) = wu6_ at Pu6_ Xu6_ Nu6_ L39 Mu6_35 L35b ⊢
                    obtain ⟨gu6_, hgu6_⟩ : ∃ g, g = wu1_.heap.size := ⟨_, rfl⟩
                    rw [← hgu6_] at Nu6_ L39 NPu6_ NQu6_ ⊢
                    clear hgu6_
                    have L35 := L35b
                    clear L35b
                    have NGP39 := NPu6_
                    have NGQ39 := NQu6_
                    clear NPu6_ NQu6_
                    have hbwu7_ : PB ≤ wu6_.heap.size := by have := Pu6_.out.kp.size; have := Pu6_.out.base; omega
                    have Ru7_ : Hid (wu6_.ownsRow PB 45 6 vp pl.length ((pl.map Vact.cells).flatten)) := Pu6_.out.p
                    refine tree_one rfl (wp_append_atA (.tmp 33) (.tmp 35) 42 rfl PB 45 i0 (.agg #[.int .i64 0, .string ⟨#[]⟩, .string ⟨#[]⟩, .int .i64 0, .int .i64 0, .string ⟨#[]⟩]) 6 72 Tryz.underlying42 hi0 hz0 hz1 hz2 rfl (by decide) vp pl.length ((pl.map Vact.cells).flatten) rfl Ru7_.out ⟨gu1_, 0, none⟩ 1 1 [.int .i64 y.at_, .string ⟨y.box.toArray⟩, .string ⟨y.id.toArray⟩, .int .i64 y.kind, .int .i64 y.long, .string ⟨y.frm.toArray⟩] rfl rfl Mu6_35.out (by intro u hu; simp at hu; rcases hu with rfl | rfl | rfl | rfl | rfl | rfl <;> rfl) (by unfold maxLen; omega) (by omega) hbwu7_ ?_)
                    intro vnu7_ wu7_ hon hgn hat
                    have Xu7_ := Lib.hid (Xu6_.out.grown hgn HNP.out)
                    have Pu7_ := Lib.hid (Pu6_.out.add hon hgn hat)
                    have Mu7_39 : Hid (∀ j u, ([.int .i64 y.at_, .string ⟨y.box.toArray⟩, .string ⟨y.id.toArray⟩, .int .i64 y.kind, .int .i64 y.long, .string ⟨y.frm.toArray⟩] : List Value)[j]? = some u → wu7_.cell? ((⟨gu6_, 0, none⟩ : Addr).add j) = some u) := fun j u hj => by
                      rw [show (⟨gu6_, 0, none⟩ : Addr).add j = ⟨gu6_, j, none⟩ by cases j <;> simp [Addr.add]]
                      have h1 := Nu6_.out j u hj
                      rw [show (⟨gu6_, 0, none⟩ : Addr).add j = ⟨gu6_, j, none⟩ by cases j <;> simp [Addr.add]] at h1
                      rw [World.cell?_of_block (a := ⟨gu6_, j, none⟩) (hgn.block gu6_ L39.out (fun e => NGP39.out e.symm))]
                      exact h1
                    have L39c : Hid (gu6_ < wu7_.heap.size) := Nat.lt_of_lt_of_le L39.out hgn.size
                    refine ⟨Xu7_.out, ?_⟩
                    simp only [Act.put, List.setIfInBounds_toArray, List.set_cons_zero, List.set_cons_succ]
                    clear hon hgn hat
                    have L39 := L39c
                    clear L39c
                    have hbwu8_ : PB ≤ wu7_.heap.size := by have := Pu7_.out.kp.size; have := Pu7_.out.base; omega
                    have Ru8_ : Hid (wu7_.ownsRow PB 45 6 vq ql.length ((ql.map Vact.cells).flatten)) := Pu7_.out.q
                    refine tree_one rfl (wp_append_atA (.tmp 37) (.tmp 39) 42 rfl PB 45 i0 (.agg #[.int .i64 0, .string ⟨#[]⟩, .string ⟨#[]⟩, .int .i64 0, .int .i64 0, .string ⟨#[]⟩]) 6 72 Tryz.underlying42 hi0 hz0 hz1 hz2 rfl (by decide) vq ql.length ((ql.map Vact.cells).flatten) rfl Ru8_.out ⟨gu6_, 0, none⟩ 1 1 [.int .i64 y.at_, .string ⟨y.box.toArray⟩, .string ⟨y.id.toArray⟩, .int .i64 y.kind, .int .i64 y.long, .string ⟨y.frm.toArray⟩] rfl rfl Mu7_39.out (by intro u hu; simp at hu; rcases hu with rfl | rfl | rfl | rfl | rfl | rfl <;> rfl) (by unfold maxLen; omega) (by omega) hbwu8_ ?_)
                    intro vnu8_ wu8_ hon hgn hat
                    have Xu8_ := Lib.hid (Xu7_.out.grown hgn HNQ.out)
                    have Pu8_ := Lib.hid ((Pu7_.out.swap.add hon hgn hat).swap)
                    refine ⟨Xu8_.out, ?_⟩
                    simp only [Act.put, List.setIfInBounds_toArray, List.set_cons_zero, List.set_cons_succ]
                    clear hon hgn hat
                    refine tree_yes (v := vnu7_) rfl (fun W9 hW => by clear hW; go_simp) (fun _ _ _ h => h) ?_
                    simp only [Act.put, List.setIfInBounds_toArray, List.set_cons_zero, List.set_cons_succ]
                    refine tree_yes (v := vnu8_) rfl (fun W9 hW => by clear hW; go_simp) (fun _ _ _ h => h) ?_
                    simp only [Act.put, List.setIfInBounds_toArray, List.set_cons_zero, List.set_cons_succ]
                    refine tree_done ?_
                    have HPX := Pu8_
                    as_aux_lemma =>
                      go_wp2_with fail
                      go_roundw
                      case rel => exact ⟨j + 1, (pl ++ [y]), (ql ++ [y]), by omega, by go_num, ⟨HSP.out.1, HSQ.out.1, HAS.out _ _ (fun a h => List.mem_append_left _ h) (fun a h => List.mem_append_left _ h) (Or.inl (List.mem_append_right _ (List.mem_singleton.2 rfl)))⟩, HPX⟩
                      case measure => simp [intOf]; omega
                · skip
                  have hbu2_ : Below wd.heap.size wd (wd.alloc (.cells #[.int .i64 y.at_, .string ⟨y.box.toArray⟩, .string ⟨y.id.toArray⟩, .int .i64 y.kind, .int .i64 y.long, .string ⟨y.frm.toArray⟩] 45)) := ext_alloc (Below.refl _ _)
                  have Pu2_ := Lib.hid (HPD.out.below hbu2_)
                  have Xu2_ := Lib.hid (XD.out.below hbu2_)
                  have Nu2_ : Hid (∀ j u, ([.int .i64 y.at_, .string ⟨y.box.toArray⟩, .string ⟨y.id.toArray⟩, .int .i64 y.kind, .int .i64 y.long, .string ⟨y.frm.toArray⟩] : List Value)[j]? = some u → (wd.alloc (.cells #[.int .i64 y.at_, .string ⟨y.box.toArray⟩, .string ⟨y.id.toArray⟩, .int .i64 y.kind, .int .i64 y.long, .string ⟨y.frm.toArray⟩] 45)).cell? ((⟨wd.heap.size, 0, none⟩ : Addr).add j) = some u) := fun j u hj => by
                    rw [show (⟨wd.heap.size, 0, none⟩ : Addr).add j = ⟨wd.heap.size, j, none⟩ by cases j <;> simp [Addr.add]]
                    exact (Blk.new wd [.int .i64 y.at_, .string ⟨y.box.toArray⟩, .string ⟨y.id.toArray⟩, .int .i64 y.kind, .int .i64 y.long, .string ⟨y.frm.toArray⟩] 45).cell j hj
                  have NPu2_ : Hid (vp.ownBlock ≠ some wd.heap.size) := own_before HPD.out.p (Nat.le_refl _)
                  have NQu2_ : Hid (vq.ownBlock ≠ some wd.heap.size) := own_before HPD.out.q (Nat.le_refl _)
                  have L39 : Hid (wd.heap.size < (wd.alloc (.cells #[.int .i64 y.at_, .string ⟨y.box.toArray⟩, .string ⟨y.id.toArray⟩, .int .i64 y.kind, .int .i64 y.long, .string ⟨y.frm.toArray⟩] 45)).heap.size) := by show _ < _; simp
                  refine (wp_valX (bl_lac0 _ (fun _ => rfl) _ _ 38 y.at_ ⟨y.box.toArray⟩ ⟨y.id.toArray⟩ y.kind y.long ⟨y.frm.toArray⟩ rfl rfl) ⟨Xu2_.out, ?_⟩)
                  simp only [Act.put, List.setIfInBounds_toArray, List.set_cons_zero, List.set_cons_succ]
                  generalize (wd.alloc (.cells #[.int .i64 y.at_, .string ⟨y.box.toArray⟩, .string ⟨y.id.toArray⟩, .int .i64 y.kind, .int .i64 y.long, .string ⟨y.frm.toArray⟩] 45)) = wu2_ at Pu2_ Xu2_ Nu2_ L39 ⊢
                  obtain ⟨gu2_, hgu2_⟩ : ∃ g, g = wd.heap.size := ⟨_, rfl⟩
                  rw [← hgu2_] at Nu2_ L39 NPu2_ NQu2_ ⊢
                  clear hgu2_
                  have NGP39 := NPu2_
                  have NGQ39 := NQu2_
                  clear NPu2_ NQu2_
                  have hbu9_ : Below wu2_.heap.size wu2_ (wu2_.alloc (.cells #[.int .i64 y.at_, .string ⟨y.box.toArray⟩, .string ⟨y.id.toArray⟩, .int .i64 y.kind, .int .i64 y.long, .string ⟨y.frm.toArray⟩] 45)) := ext_alloc (Below.refl _ _)
                  have Pu9_ := Lib.hid (Pu2_.out.below hbu9_)
                  have Xu9_ := Lib.hid (Xu2_.out.below hbu9_)
                  have Nu9_ : Hid (∀ j u, ([.int .i64 y.at_, .string ⟨y.box.toArray⟩, .string ⟨y.id.toArray⟩, .int .i64 y.kind, .int .i64 y.long, .string ⟨y.frm.toArray⟩] : List Value)[j]? = some u → (wu2_.alloc (.cells #[.int .i64 y.at_, .string ⟨y.box.toArray⟩, .string ⟨y.id.toArray⟩, .int .i64 y.kind, .int .i64 y.long, .string ⟨y.frm.toArray⟩] 45)).cell? ((⟨wu2_.heap.size, 0, none⟩ : Addr).add j) = some u) := fun j u hj => by
                    rw [show (⟨wu2_.heap.size, 0, none⟩ : Addr).add j = ⟨wu2_.heap.size, j, none⟩ by cases j <;> simp [Addr.add]]
                    exact (Blk.new wu2_ [.int .i64 y.at_, .string ⟨y.box.toArray⟩, .string ⟨y.id.toArray⟩, .int .i64 y.kind, .int .i64 y.long, .string ⟨y.frm.toArray⟩] 45).cell j hj
                  have Mu9_39 : Hid (∀ j u, ([.int .i64 y.at_, .string ⟨y.box.toArray⟩, .string ⟨y.id.toArray⟩, .int .i64 y.kind, .int .i64 y.long, .string ⟨y.frm.toArray⟩] : List Value)[j]? = some u → (wu2_.alloc (.cells #[.int .i64 y.at_, .string ⟨y.box.toArray⟩, .string ⟨y.id.toArray⟩, .int .i64 y.kind, .int .i64 y.long, .string ⟨y.frm.toArray⟩] 45)).cell? ((⟨gu2_, 0, none⟩ : Addr).add j) = some u) := fun j u hj => (hbu9_.cell (p := (⟨gu2_, 0, none⟩ : Addr).add j) (by rw [show (⟨gu2_, 0, none⟩ : Addr).add j = ⟨gu2_, j, none⟩ by cases j <;> simp [Addr.add]]; exact L39.out)).trans (Nu2_.out j u hj)
                  have L39b : Hid (gu2_ < (wu2_.alloc (.cells #[.int .i64 y.at_, .string ⟨y.box.toArray⟩, .string ⟨y.id.toArray⟩, .int .i64 y.kind, .int .i64 y.long, .string ⟨y.frm.toArray⟩] 45)).heap.size) := Nat.lt_of_lt_of_le L39.out hbu9_.size
                  have NPu9_ : Hid (vp.ownBlock ≠ some wu2_.heap.size) := own_before Pu2_.out.p (Nat.le_refl _)
                  have NQu9_ : Hid (vq.ownBlock ≠ some wu2_.heap.size) := own_before Pu2_.out.q (Nat.le_refl _)
                  have L35 : Hid (wu2_.heap.size < (wu2_.alloc (.cells #[.int .i64 y.at_, .string ⟨y.box.toArray⟩, .string ⟨y.id.toArray⟩, .int .i64 y.kind, .int .i64 y.long, .string ⟨y.frm.toArray⟩] 45)).heap.size) := by show _ < _; simp
                  refine tree_one rfl (wp_valX (bl_lac0 _ (fun _ => rfl) _ _ 34 y.at_ ⟨y.box.toArray⟩ ⟨y.id.toArray⟩ y.kind y.long ⟨y.frm.toArray⟩ rfl rfl) ⟨Xu9_.out, ?_⟩)
                  simp only [Act.put, List.setIfInBounds_toArray, List.set_cons_zero, List.set_cons_succ]
                  generalize (wu2_.alloc (.cells #[.int .i64 y.at_, .string ⟨y.box.toArray⟩, .string ⟨y.id.toArray⟩, .int .i64 y.kind, .int .i64 y.long, .string ⟨y.frm.toArray⟩] 45)) = wu9_ at Pu9_ Xu9_ Nu9_ L35 Mu9_39 L39b ⊢
                  obtain ⟨gu9_, hgu9_⟩ : ∃ g, g = wu2_.heap.size := ⟨_, rfl⟩
                  rw [← hgu9_] at Nu9_ L35 NPu9_ NQu9_ ⊢
                  clear hgu9_
                  have L39 := L39b
                  clear L39b
                  have NGP35 := NPu9_
                  have NGQ35 := NQu9_
                  clear NPu9_ NQu9_
                  have hbwu10_ : PB ≤ wu9_.heap.size := by have := Pu9_.out.kp.size; have := Pu9_.out.base; omega
                  have Ru10_ : Hid (wu9_.ownsRow PB 45 6 vp pl.length ((pl.map Vact.cells).flatten)) := Pu9_.out.p
                  refine tree_one rfl (wp_append_atA (.tmp 33) (.tmp 35) 42 rfl PB 45 i0 (.agg #[.int .i64 0, .string ⟨#[]⟩, .string ⟨#[]⟩, .int .i64 0, .int .i64 0, .string ⟨#[]⟩]) 6 72 Tryz.underlying42 hi0 hz0 hz1 hz2 rfl (by decide) vp pl.length ((pl.map Vact.cells).flatten) rfl Ru10_.out ⟨gu9_, 0, none⟩ 1 1 [.int .i64 y.at_, .string ⟨y.box.toArray⟩, .string ⟨y.id.toArray⟩, .int .i64 y.kind, .int .i64 y.long, .string ⟨y.frm.toArray⟩] rfl rfl Nu9_.out (by intro u hu; simp at hu; rcases hu with rfl | rfl | rfl | rfl | rfl | rfl <;> rfl) (by unfold maxLen; omega) (by omega) hbwu10_ ?_)
                  intro vnu10_ wu10_ hon hgn hat
                  have Xu10_ := Lib.hid (Xu9_.out.grown hgn HNP.out)
                  have Pu10_ := Lib.hid (Pu9_.out.add hon hgn hat)
                  have Mu10_39 : Hid (∀ j u, ([.int .i64 y.at_, .string ⟨y.box.toArray⟩, .string ⟨y.id.toArray⟩, .int .i64 y.kind, .int .i64 y.long, .string ⟨y.frm.toArray⟩] : List Value)[j]? = some u → wu10_.cell? ((⟨gu2_, 0, none⟩ : Addr).add j) = some u) := fun j u hj => by
                    rw [show (⟨gu2_, 0, none⟩ : Addr).add j = ⟨gu2_, j, none⟩ by cases j <;> simp [Addr.add]]
                    have h1 := Mu9_39.out j u hj
                    rw [show (⟨gu2_, 0, none⟩ : Addr).add j = ⟨gu2_, j, none⟩ by cases j <;> simp [Addr.add]] at h1
                    rw [World.cell?_of_block (a := ⟨gu2_, j, none⟩) (hgn.block gu2_ L39.out (fun e => NGP39.out e.symm))]
                    exact h1
                  have L39c : Hid (gu2_ < wu10_.heap.size) := Nat.lt_of_lt_of_le L39.out hgn.size
                  refine ⟨Xu10_.out, ?_⟩
                  simp only [Act.put, List.setIfInBounds_toArray, List.set_cons_zero, List.set_cons_succ]
                  clear hon hgn hat
                  have L39 := L39c
                  clear L39c
                  have hbwu11_ : PB ≤ wu10_.heap.size := by have := Pu10_.out.kp.size; have := Pu10_.out.base; omega
                  have Ru11_ : Hid (wu10_.ownsRow PB 45 6 vq ql.length ((ql.map Vact.cells).flatten)) := Pu10_.out.q
                  refine tree_one rfl (wp_append_atA (.tmp 37) (.tmp 39) 42 rfl PB 45 i0 (.agg #[.int .i64 0, .string ⟨#[]⟩, .string ⟨#[]⟩, .int .i64 0, .int .i64 0, .string ⟨#[]⟩]) 6 72 Tryz.underlying42 hi0 hz0 hz1 hz2 rfl (by decide) vq ql.length ((ql.map Vact.cells).flatten) rfl Ru11_.out ⟨gu2_, 0, none⟩ 1 1 [.int .i64 y.at_, .string ⟨y.box.toArray⟩, .string ⟨y.id.toArray⟩, .int .i64 y.kind, .int .i64 y.long, .string ⟨y.frm.toArray⟩] rfl rfl Mu10_39.out (by intro u hu; simp at hu; rcases hu with rfl | rfl | rfl | rfl | rfl | rfl <;> rfl) (by unfold maxLen; omega) (by omega) hbwu11_ ?_)
                  intro vnu11_ wu11_ hon hgn hat
                  have Xu11_ := Lib.hid (Xu10_.out.grown hgn HNQ.out)
                  have Pu11_ := Lib.hid ((Pu10_.out.swap.add hon hgn hat).swap)
                  refine ⟨Xu11_.out, ?_⟩
                  simp only [Act.put, List.setIfInBounds_toArray, List.set_cons_zero, List.set_cons_succ]
                  clear hon hgn hat
                  refine tree_yes (v := vnu10_) rfl (fun W9 hW => by clear hW; go_simp) (fun _ _ _ h => h) ?_
                  simp only [Act.put, List.setIfInBounds_toArray, List.set_cons_zero, List.set_cons_succ]
                  refine tree_yes (v := vnu11_) rfl (fun W9 hW => by clear hW; go_simp) (fun _ _ _ h => h) ?_
                  simp only [Act.put, List.setIfInBounds_toArray, List.set_cons_zero, List.set_cons_succ]
                  refine tree_done ?_
                  have HPX := Pu11_
                  as_aux_lemma =>
                    go_wp2_with fail
                    go_roundw
                    case rel => exact ⟨j + 1, (pl ++ [y]), (ql ++ [y]), by omega, by go_num, ⟨HSP.out.1, HSQ.out.1, HAS.out _ _ (fun a h => List.mem_append_left _ h) (fun a h => List.mem_append_left _ h) (Or.inl (List.mem_append_right _ (List.mem_singleton.2 rfl)))⟩, HPX⟩
                    case measure => simp [intOf]; omega
end Go.Proofs.YtamoclofloijpaaGreatDoor
