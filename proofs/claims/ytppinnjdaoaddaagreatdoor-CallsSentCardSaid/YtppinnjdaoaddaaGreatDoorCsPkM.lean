/- What is proved here: lemmas and contracts for the statement, put together out of smaller texts (CarrSnw, CarrFcp, CarrSnd, CarrSnx, CarrEqO, CarrOfr). No condition beyond those stated. -/
import Derived.Test.YtppinnjdaoaddaaGreatDoorCsPkL
import Derived.Test.YtppinnjdaoaddaaGreatDoorCsPkA
import Derived.Test.YtppinnjdaoaddaaGreatDoorCsPkC
import Derived.Test.YtppinnjdaoaddaaGreatDoorCsPkI
import Derived.Test.YtppinnjdaoaddaaGreatDoorCsPkK
import Derived.Test.YtppinnjdaoaddaaGreatDoorCsPkD
import Derived.Laws.StructEq
import Derived.Test.YtppinnjdaoaddaaGreatDoorCsPkJ
set_option linter.unusedVariables false
set_option linter.unusedSimpArgs false
namespace Go.Proofs.YtppinnjdaoaddaaGreatDoor
open Go.RowKit Go.Sort Go.Lib

theorem Tryz.infoSnt : (Tryz.prog.info? 102).map (fun i => (i.zero, i.size, i.bytes)) = some (some (.agg #[.string ⟨#[]⟩, .string ⟨#[]⟩, .int .i64 0, .int .i64 0]), 4, 48) := by kernel_rfl
theorem Tryz.infoLst : (Tryz.prog.info? 156).map (fun i => (i.zero, i.size, i.bytes)) = some (some (.agg #[.string ⟨#[]⟩, .int .i64 0, .int .i64 0]), 3, 32) := by kernel_rfl
theorem sncells_snoc (l : List Snt) (r : Snt) : ((l ++ [r]).map Snt.cells).flatten = (l.map Snt.cells).flatten ++ Snt.cells r := by simp
theorem fncells_snoc (l : List Flt) (r : Flt) : ((l ++ [r]).map Flt.cells).flatten = (l.map Flt.cells).flatten ++ Flt.cells r := by simp
theorem snt_snoc {w : World} {base : Nat} {v : Value} {l : List Snt} {r : Snt} (h : w.ownsRow base 102 4 v (l.length + 1) ((l.map Snt.cells).flatten ++ Snt.cells r)) : w.ownsRow base 102 4 v (l ++ [r]).length (((l ++ [r]).map Snt.cells).flatten) := by
  rw [sncells_snoc, List.length_append]
  exact h
theorem lst_snoc {w : World} {base : Nat} {e : TypeId} {v : Value} {l : List Flt} {r : Flt} (h : w.ownsRow base e 3 v (l.length + 1) ((l.map Flt.cells).flatten ++ Flt.cells r)) : w.ownsRow base e 3 v (l ++ [r]).length (((l ++ [r]).map Flt.cells).flatten) := by
  rw [fncells_snoc, List.length_append]
  exact h
def SendPost (x : List Snt) (n : Int) (w : World) (e : Ending) (w' : World) : Prop := ∃ v, e = .returned (.tuple #[v, .int .i64 n]) ∧ w'.ownsRow w.heap.size 102 4 v x.length ((x.map Snt.cells).flatten) ∧ Below w.heap.size w w'
theorem bd_snt (e : Operand → Value) (o : Oper) (w : World) (p0 : ByteArray) (ho : o.op = .build 102 #[(0, .tmp 29)]) (h0 : e (.tmp 29) = .string p0) :
   (execOp e o).run Tryz.prog w = .ok (.value (.agg #[.string p0, .string ⟨#[]⟩, .int .i64 0, .int .i64 0])) w := by
  unfold execOp
  rw [ho]
  simp only [List.map_toArray, List.map_cons, List.map_nil, h0]
  kernel_rfl
theorem bl_snw0 (e : Operand → Value) (he : ∀ v, e (.const v) = v) (o : Oper) (w : World) (i0 : Nat) (p0_0 : ByteArray) (p0_1 : ByteArray) (z0_2 : Int) (z0_3 : Int) (ho : o.op = .buildSlice 92 1 #[(0, .tmp i0)]) (h0 : e (.tmp i0) = .agg #[.string p0_0, .string p0_1, .int .i64 z0_2, .int .i64 z0_3]) :
   (execOp e o).run Tryz.prog w = .ok (.value (.slice (some ⟨w.heap.size, 0, none⟩) 1 1)) (w.alloc (.cells #[.string p0_0, .string p0_1, .int .i64 z0_2, .int .i64 z0_3] 102)) := by
  unfold execOp
  rw [ho]
  simp only [List.map_toArray, List.map_cons, List.map_nil, h0]
  kernel_rfl
theorem bl_snw1 (e : Operand → Value) (he : ∀ v, e (.const v) = v) (o : Oper) (w : World) (i0 : Nat) (p0_0 : ByteArray) (z0_1 : Int) (z0_2 : Int) (ho : o.op = .buildSlice 153 1 #[(0, .tmp i0)]) (h0 : e (.tmp i0) = .agg #[.string p0_0, .int .i64 z0_1, .int .i64 z0_2]) :
   (execOp e o).run Tryz.prog w = .ok (.value (.slice (some ⟨w.heap.size, 0, none⟩) 1 1)) (w.alloc (.cells #[.string p0_0, .int .i64 z0_1, .int .i64 z0_2] 156)) := by
  unfold execOp
  rw [ho]
  simp only [List.map_toArray, List.map_cons, List.map_nil, h0]
  kernel_rfl

set_option maxRecDepth 100000 in
set_option maxHeartbeats 80000000 in
theorem send_any (w : World) (a : Option Addr) (n cap : Nat) (l : List Carr) (hl : CarrRow w a n l) (hcap : n ≤ cap) (hn3 : n ≤ 3) (h0 : carrsErr l = 0) (a1 : Option Addr) (n1 cap1 : Nat) (f : List Flt) (hf : FltRow w a1 n1 f) (a2 : Option Addr) (m cap2 : Nat) (rs : List Rcd) (hs : RcdRow w a2 m rs) (hm : m ≤ 20) (hz : ∀ i, i < rs.length → sndErr rs i = 0) :
    Calls Tryz.prog 87 #[.slice a n cap, .slice a1 n1 cap1, .slice a2 m cap2] w (SendPost (sendTo l f rs m).out (sendTo l f rs m).saved w) := by
  obtain ⟨i1, hi1, hy0, hy1, hy2⟩ := info_parts Tryz.infoSnt
  obtain ⟨i2, hi2, hz0, hz1, hz2⟩ := info_parts Tryz.infoLst
  have hlen := hs.len
  have hll : l.length ≤ 3 := by rw [← hl.len]; exact hn3
  have hgood : ∀ t, GoodAt l t := fun t => good_row hl h0
  have hpr : ∀ i, i < rs.length → ∀ o ∈ offL l (rs.getD i noRcd), 0 ≤ priceBy l (rs.getD i noRcd) o.c ∧ priceBy l (rs.getD i noRcd) o.c ≤ 1000000000000 := fun i hi => offL_price hll (hgood _) (snd_zero (hz i hi)).2.2.2.1
  have HBD := Lib.hid (fun k (hk : k ≤ m) => sendTo_bound (f := f) hpr k (by rw [← hlen]; exact hk))
  have HPR := Lib.hid hpr
  have HCR := Lib.hid hl
  have HFR := Lib.hid hf
  have HSR := Lib.hid hs
  have HG := Lib.hid hgood
  have HZ := Lib.hid hz
  have HLL := Lib.hid hll
  have HLEN := Lib.hid hlen
  clear hl hf hs hgood hpr hz hll hlen
  go_enter Tryz.func87, Tryz.ntmps87
  go_wp2_with fail
  go_loopw [8, 9, 10, 21] (fun vo vc vs it wr => ∃ (k : Nat) (st : SSt), k ≤ m ∧ it = .int .i64 k ∧ Hid (st = sendTo l f rs k) ∧ vs = .int .i64 st.saved ∧ Hid (wr.ownsRow w.heap.size 102 4 vo st.out.length ((st.out.map Snt.cells).flatten)) ∧ Hid (wr.ownsRow w.heap.size 156 3 vc st.calls.length ((st.calls.map Flt.cells).flatten)) ∧ Hid (Below w.heap.size w wr)) (fun _ _ _ it _ => m - (intOf it).toNat)
  case atStart => exact ⟨0, ⟨[], [], 0⟩, Nat.zero_le _, rfl, rfl, rfl, World.ownsRow_nil _ _ _ _, World.ownsRow_nil _ _ _ _, Below.refl _ _⟩
  case round =>
    obtain ⟨k, st, hk, rfl, HST, rfl, HO, HC, HB⟩ := hrel
    obtain ⟨hb1, hb2, hb3, hb4⟩ := HBD.out k hk
    rw [← HST.out] at hb1 hb2 hb3 hb4
    by_cases hlt : k < m
    case neg =>
      obtain rfl : k = m := by omega
      have HE : Hid (SendPost (sendTo l f rs k).out (sendTo l f rs k).saved w (.returned (.tuple #[u8, .int .i64 st.saved])) wr) := by
        show SendPost _ _ _ _ _
        rw [← HST.out]
        exact ⟨_, rfl, HO.out, HB.out⟩
      clear HO HC HB HBD
      obtain ⟨vo, rfl⟩ : ∃ x : Value, x = u8 := ⟨_, rfl⟩
      as_aux_lemma =>
        go_wp2_with fail
        go_ret2
        exact HE.out
    have hki : (k : Int) < (m : Int) := by omega
    have HSTEP : Hid (sendTo l f rs (k + 1) = sendR l f (rs.getD k noRcd) st) := by show sendR l f (rs.getD k noRcd) (sendTo l f rs k) = _; rw [HST.out]
    have hkl : k < rs.length := by rw [← HLEN.out]; exact hlt
    have HSZ := Lib.hid (snd_zero (HZ.out k hkl))
    have HPK := Lib.hid (HPR.out k hkl)
    obtain ⟨b, off, rfl, hb, hc⟩ := (HSR.out.below HB.out).at (by omega)
    obtain ⟨c0, c1, c2, c3, c4, c5, c6, c7⟩ := hc k hlt
    obtain ⟨e0, e1, e2, e3, e4, e5, e6, e7⟩ := (HSR.out.below HB.out).each k (by rw [← HLEN.out]; exact hlt)
    clear hc
    generalize rs.getD k noRcd = r at HSTEP HSZ HPK c0 c1 c2 c3 c4 c5 c6 c7 e0 e1 e2 e3 e4 e5 e6 e7
    obtain ⟨ri, rf, rt, ra, rr, rk, rh, rc⟩ := r
    simp only at HSZ c0 c1 c2 c3 c4 c5 c6 c7 e0 e1 e2 e3 e4 e5 e6 e7
    obtain ⟨hnum, hmom, hring, htalk, -⟩ := HSZ.out
    obtain ⟨d9, hrt, -, hd4, hd15⟩ := num_parts hnum
    have h1t : 1 ≤ rt.length := by rw [hrt]; simp
    have h16t : rt.length ≤ 16 := by rw [hrt]; simp; omega
    have HX : Hid (Blk (wr.alloc (.cells #[.string ⟨ri.toArray⟩, .string ⟨rf.toArray⟩, .string ⟨rt.toArray⟩, .int .i64 ra, .int .i64 rr, .int .i64 rk, .int .i64 rh, .string ⟨rc.toArray⟩] 83)) wr.heap.size [.string ⟨ri.toArray⟩, .string ⟨rf.toArray⟩, .string ⟨rt.toArray⟩, .int .i64 ra, .int .i64 rr, .int .i64 rk, .int .i64 rh, .string ⟨rc.toArray⟩] 83) := Blk.new wr [.string ⟨ri.toArray⟩, .string ⟨rf.toArray⟩, .string ⟨rt.toArray⟩, .int .i64 ra, .int .i64 rr, .int .i64 rk, .int .i64 rh, .string ⟨rc.toArray⟩] 83
    have hA : Below wr.heap.size wr (wr.alloc (.cells #[.string ⟨ri.toArray⟩, .string ⟨rf.toArray⟩, .string ⟨rt.toArray⟩, .int .i64 ra, .int .i64 rr, .int .i64 rk, .int .i64 rh, .string ⟨rc.toArray⟩] 83)) := ext_alloc (Below.refl _ _)
    have HB1 := Lib.hid (ext_trans HB.out hA)
    have HO1 := Lib.hid (own_keep HO.out hA)
    have HC1 := Lib.hid (own_keep HC.out hA)
    have hBw : w.heap.size ≤ wr.heap.size := HB.out.size
    clear hA HB HO HC HSZ hnum hmom hrt hd4 hd15 HBD HPR HZ HST
    obtain ⟨vo, rfl⟩ : ∃ x : Value, x = u8 := ⟨_, rfl⟩
    obtain ⟨vc, rfl⟩ : ∃ x : Value, x = u9 := ⟨_, rfl⟩
    obtain ⟨so, sc, ss⟩ := st
    simp only at hb1 hb2 hb3 hb4 HSTEP HO1 HC1
    as_aux_lemma =>
      go_upto_region 7 with (fail)
      generalize wr.alloc (.cells #[.string ⟨ri.toArray⟩, .string ⟨rf.toArray⟩, .string ⟨rt.toArray⟩, .int .i64 ra, .int .i64 rr, .int .i64 rk, .int .i64 rh, .string ⟨rc.toArray⟩] 83) = w1 at HX HB1 HO1 HC1 ⊢
      obtain ⟨X, hX⟩ : ∃ X, X = wr.heap.size := ⟨_, rfl⟩
      rw [← hX] at HX hBw ⊢
      clear hX c0 c1 c2 c3 c4 c5 c6 c7
      have HDL := Lib.hid (delL_any w1 w.heap.size vc sc HC1.out (by omega) X _ ra HX.out rfl)
      as_aux_lemma =>
        go_wp2_with fail
        refine HDL.out.mono ?_
        rintro e w2 ⟨v2, rfl, hc2, hg2, hv2⟩
        have hvX : vc.ownBlock ≠ some X := own_blk HC1.out HX.out (by decide)
        have HX2 := Lib.hid (HX.out.grown hg2 hvX)
        have HO2 := Lib.hid (own_gb HO1.out hg2 (fun b hb h9 => own_types HO1.out HC1.out (by decide) b hb h9))
        have HB2 := Lib.hid (HB1.out.trans (gb_to_below hg2 HB1.out.size (fun b h9 => (HC1.out.lt b h9).1)))
        have HC2 := Lib.hid hc2
        have hL1 : (lastAt sc ra).length ≤ sc.length := List.length_filter_le _ _
        clear hc2 hg2 hv2 hvX HX HO1 HC1 HB1 HDL
        have HRR : Hid (sendR l f ⟨ri, rf, rt, ra, rr, rk, rh, rc⟩ ⟨so, sc, ss⟩ = if (sendO l f (lastAt sc ra) ⟨ri, rf, rt, ra, rr, rk, rh, rc⟩ (offL l ⟨ri, rf, rt, ra, rr, rk, rh, rc⟩) (offL l ⟨ri, rf, rt, ra, rr, rk, rh, rc⟩).length).1.c = [] then ⟨so ++ [(sendO l f (lastAt sc ra) ⟨ri, rf, rt, ra, rr, rk, rh, rc⟩ (offL l ⟨ri, rf, rt, ra, rr, rk, rh, rc⟩) (offL l ⟨ri, rf, rt, ra, rr, rk, rh, rc⟩).length).1], lastAt sc ra, ss⟩ else ⟨so ++ [(sendO l f (lastAt sc ra) ⟨ri, rf, rt, ra, rr, rk, rh, rc⟩ (offL l ⟨ri, rf, rt, ra, rr, rk, rh, rc⟩) (offL l ⟨ri, rf, rt, ra, rr, rk, rh, rc⟩).length).1], lastAt sc ra ++ [callOf ⟨ri, rf, rt, ra, rr, rk, rh, rc⟩ (sendO l f (lastAt sc ra) ⟨ri, rf, rt, ra, rr, rk, rh, rc⟩ (offL l ⟨ri, rf, rt, ra, rr, rk, rh, rc⟩) (offL l ⟨ri, rf, rt, ra, rr, rk, rh, rc⟩).length).1.c], ss + ((sendO l f (lastAt sc ra) ⟨ri, rf, rt, ra, rr, rk, rh, rc⟩ (offL l ⟨ri, rf, rt, ra, rr, rk, rh, rc⟩) (offL l ⟨ri, rf, rt, ra, rr, rk, rh, rc⟩).length).2 - (sendO l f (lastAt sc ra) ⟨ri, rf, rt, ra, rr, rk, rh, rc⟩ (offL l ⟨ri, rf, rt, ra, rr, rk, rh, rc⟩) (offL l ⟨ri, rf, rt, ra, rr, rk, rh, rc⟩).length).1.price)⟩) := rfl
        generalize lastAt sc ra = L1 at HC2 HRR hL1
        have hL2 : L1.length ≤ 50 := by omega
        have x0 := HX2.out.cell 0 rfl
        have hA : Below w2.heap.size w2 (w2.alloc (.cells #[.string ⟨ri.toArray⟩, .string ⟨#[]⟩, .int .i64 0, .int .i64 0] 102)) := ext_alloc (Below.refl _ _)
        have HY : Hid (Blk (w2.alloc (.cells #[.string ⟨ri.toArray⟩, .string ⟨#[]⟩, .int .i64 0, .int .i64 0] 102)) w2.heap.size [.string ⟨ri.toArray⟩, .string ⟨#[]⟩, .int .i64 0, .int .i64 0] 102) := Blk.new w2 [.string ⟨ri.toArray⟩, .string ⟨#[]⟩, .int .i64 0, .int .i64 0] 102
        have HX3 := Lib.hid (HX2.out.below hA)
        have HO3 := Lib.hid (own_keep HO2.out hA)
        have HC3 := Lib.hid (own_keep HC2.out hA)
        have HB3 := Lib.hid (ext_trans HB2.out hA)
        have hXY : X < w2.heap.size := HX2.out.lt
        have hBY : w.heap.size ≤ w2.heap.size := HB2.out.size
        have HOY : Hid (vo.ownBlock ≠ some w2.heap.size) := own_before HO2.out (Nat.le_refl _)
        clear hA HX2 HO2 HC2 HB2
        as_aux_lemma =>
          go_upto_region 9 with (refine wpList_val rfl (bd_snt _ _ _ _ rfl rfl) ?_)
          generalize w2.alloc (.cells #[.string ⟨ri.toArray⟩, .string ⟨#[]⟩, .int .i64 0, .int .i64 0] 102) = w3 at HY HX3 HO3 HC3 HB3 ⊢
          generalize w2.heap.size = Y at HY hXY hBY HOY ⊢
          clear x0
          have x2 := HX3.out.cell 2 rfl
          have x3 := HX3.out.cell 3 rfl
          have hofs : Calls Tryz.prog 76 #[.slice a n cap, .string ⟨rt.toArray⟩, .int .i64 ra] w3 (OfsPost (offL l ⟨ri, rf, rt, ra, rr, rk, rh, rc⟩) w3) := by
            have := offersI_any w3 a n cap l (HCR.out.below HB3.out) hn3 rt h1t h16t ra (HG.out ra)
            rw [HCR.out.len] at this
            unfold offL
            rw [← HCR.out.len] at this ⊢
            exact this
          have HOF := Lib.hid hofs
          have HOM := Lib.hid (offL_mem HLL.out ⟨ri, rf, rt, ra, rr, rk, rh, rc⟩)
          have hol := offL_len HLL.out ⟨ri, rf, rt, ra, rr, rk, rh, rc⟩
          have HOB := Lib.hid (fun k (hk : k ≤ (offL l ⟨ri, rf, rt, ra, rr, rk, rh, rc⟩).length) => sendO_bound (f := f) (L := L1) (show (0 : Int) ≤ 1000000000000 by decide) HPK.out k hk)
          have HPB := Lib.hid (fun i (hi : i < (offL l ⟨ri, rf, rt, ra, rr, rk, rh, rc⟩).length) => HPK.out _ (getD_memO hi))
          have HOI := Lib.hid (fun i (hi : i < (offL l ⟨ri, rf, rt, ra, rr, rk, rh, rc⟩).length) => HOM.out _ (getD_memO hi))
          clear hofs HOM HPK
          generalize offL l ⟨ri, rf, rt, ra, rr, rk, rh, rc⟩ = os at HOF HOI hol HOB HPB HRR
          as_aux_lemma =>
            go_wp2_with fail
            refine HOF.out.mono ?_
            rintro e w4 ⟨vO, rfl, how, hb4⟩
            have HW4 := Lib.hid how
            have HY4 := Lib.hid (HY.out.below hb4)
            have HX4 := Lib.hid (HX3.out.below hb4)
            have HO4 := Lib.hid (own_keep HO3.out hb4)
            have HC4 := Lib.hid (own_keep HC3.out hb4)
            have HB4 := Lib.hid (ext_trans HB3.out hb4)
            obtain ⟨ga, gc, rfl⟩ := own_shape HW4.out
            clear how hb4 HOF HY HX3 HO3 HC3 HB3 x2 x3
            obtain ⟨wo, rfl⟩ : ∃ x : World, x = wr := ⟨_, rfl⟩
            as_aux_lemma =>
              go_wp2_with fail
              go_loopw [14, 38] (fun vm it wr => ∃ i : Nat, i ≤ os.length ∧ it = .int .i64 i ∧ vm = .int .i64 (sendO l f L1 ⟨ri, rf, rt, ra, rr, rk, rh, rc⟩ os i).2 ∧ Hid (Blk wr Y (Snt.cells (sendO l f L1 ⟨ri, rf, rt, ra, rr, rk, rh, rc⟩ os i).1) 102) ∧ Hid (w4.grownBy wr (some Y))) (fun _ it _ => os.length - (intOf it).toNat)
              case atStart => exact ⟨0, Nat.zero_le _, rfl, rfl, HY4.out, gb_of_below (Below.refl _ _)⟩
              case round =>
                have HY4' := HY4
                clear HY4
                obtain ⟨i, hi, rfl, rfl, HYi, HGi⟩ := hrel
                obtain ⟨⟨ht0, ht1⟩, ⟨hp0, hp1⟩, hm0, hm1⟩ := HOB.out i hi
                by_cases hlo : i < os.length
                case neg =>
                  obtain rfl : i = os.length := by omega
                  have hloi : ¬ (os.length : Int) < os.length := by omega
                  generalize hq : sendO l f L1 ⟨ri, rf, rt, ra, rr, rk, rh, rc⟩ os os.length = q at HYi ht0 ht1 hp0 hp1 hm0 hm1 HRR ⊢
                  clear hq
                  obtain ⟨⟨q0, q1, q2, q3⟩, qm⟩ := q
                  simp only [Snt.cells] at HYi ht0 ht1 hp0 hp1 hm0 hm1 HRR ⊢
                  have HXi := Lib.hid (HX4.out.grown HGi.out (fun e => by injection e; omega))
                  have HOi := Lib.hid (own_gb HO4.out HGi.out (fun b h9 e => HOY.out (by rw [h9, ← e])))
                  have HCi := Lib.hid (own_gb HC4.out HGi.out (fun b h9 e => by
                    have h8 := own_blk HC4.out HY4'.out (by decide)
                    exact h8 (by rw [h9, ← e])))
                  have HBi := Lib.hid (HB4.out.trans (gb_to_below HGi.out HB4.out.size (fun b e => by injection e; omega)))
                  clear HX4 HO4 HC4 HB4 HGi HW4 HOI HOB HPB
                  have y0 := HYi.out.cell 0 rfl
                  have y1 := HYi.out.cell 1 rfl
                  have y2 := HYi.out.cell 2 rfl
                  have y3 := HYi.out.cell 3 rfl
                  cases q1 with
                  | nil =>
                    have HN : Hid (sendTo l f rs (k + 1) = ⟨so ++ [⟨q0, [], q2, q3⟩], L1, ss⟩) := by show _ = _; rw [HSTEP.out, HRR.out, if_pos rfl]
                    clear HSTEP HRR
                    have HO9 := HOi
                    have HC9 := HCi
                    have HB9 := HBi
                    obtain ⟨oa, oc, rfl⟩ := own_shape HO9.out
                    clear HOi HCi HBi
                    have HOA : Hid (World.ownsRow (wr.alloc (.cells #[.string ⟨q0.toArray⟩, .string ⟨#[]⟩, .int .i64 q2, .int .i64 q3] 102)) w.heap.size 102 4 (.slice oa so.length oc) so.length ((so.map Snt.cells).flatten)) := World.ownsRow.alloc HO9.out (.cells #[.string ⟨q0.toArray⟩, .string ⟨#[]⟩, .int .i64 q2, .int .i64 q3] 102)
                    have HNA : Hid (Blk (wr.alloc (.cells #[.string ⟨q0.toArray⟩, .string ⟨#[]⟩, .int .i64 q2, .int .i64 q3] 102)) wr.heap.size [.string ⟨q0.toArray⟩, .string ⟨#[]⟩, .int .i64 q2, .int .i64 q3] 102) := Blk.new wr [.string ⟨q0.toArray⟩, .string ⟨#[]⟩, .int .i64 q2, .int .i64 q3] 102
                    have hW9 : w.heap.size ≤ wr.heap.size := HB9.out.size
                    have hvw : ∀ b, (Value.slice oa so.length oc).ownBlock = some b → w.heap.size ≤ b := fun b e => (HO9.out.lt b e).1
                    as_aux_lemma =>
                      go_wp2_with (first | (refine wpList_val rfl (bl_snw0 _ (fun _ => rfl) _ _ 115 ⟨q0.toArray⟩ ⟨#[]⟩ q2 q3 rfl rfl) ?_) | (at_builtin; go_loud (refine wpList_append_own_at _ rfl (.tmp 114) (.tmp 116) 92 rfl w.heap.size 102 i1 _ 4 48 Tryz.underlying92 hi1 hy0 hy1 hy2 rfl (by omega) (.slice oa so.length oc) so.length _ rfl HOA.out ⟨wr.heap.size, 0, none⟩ 1 1 [.string ⟨q0.toArray⟩, .string ⟨#[]⟩, .int .i64 q2, .int .i64 q3] rfl rfl (fun j u hj => by rw [add0]; exact HNA.out.cell j hj) (by simp [Value.oneCell']) (by simp only [maxLen]; omega) (by omega) (by simp; omega) ?_); intro v12 w12 hown12 hgr12 _ hat12; have HQ1 := Lib.hid hown12; have HQ2 := Lib.hid hgr12; clear hown12 hgr12 hat12 HOA HNA; refine Hid.out ?_))
                      refine Lib.hid ?_
                      have HO12 := Lib.hid (snt_snoc (r := ⟨q0, ([] : List UInt8), q2, q3⟩) HQ1.out)
                      have hg12 := gb_alloc HQ2.out
                      have HC12 := Lib.hid (own_gb HC9.out hg12 (fun b h9 e => own_types HC9.out HO9.out (by decide) b h9 e))
                      have HB12 : Hid (Below w.heap.size w w12) := HB9.out.trans (upto_grown HQ2.out hW9 hvw)
                      clear HQ1 HQ2 hg12 HO9 HC9 HB9
                      as_aux_lemma =>
                        go_wp2_with fail
                        go_roundw
                        case rel => exact ⟨k + 1, (⟨so ++ [(⟨q0, ([] : List UInt8), q2, q3⟩ : Snt)], L1, ss⟩ : SSt), by omega, by go_num, HN.out.symm, rfl, HO12.out, HC12.out, HB12.out⟩
                        case measure => simp [intOf]; omega
                  | cons z1 q1 =>
                    have HN : Hid (sendTo l f rs (k + 1) = ⟨so ++ [⟨q0, z1 :: q1, q2, q3⟩], L1 ++ [⟨z1 :: q1, ra, ra + rr + rk⟩], ss + (qm - q3)⟩) := by show _ = _; rw [HSTEP.out, HRR.out, if_neg (by simp)]; rfl
                    clear HSTEP HRR
                    have x3 := HXi.out.cell 3 rfl
                    have x4 := HXi.out.cell 4 rfl
                    have x5 := HXi.out.cell 5 rfl
                    have wa1 : IntKind.i64.wrap (ra + rr) = ra + rr := IntWalk.i64_in _ (by omega)
                    have wa2 : IntKind.i64.wrap (ra + rr + rk) = ra + rr + rk := IntWalk.i64_in _ (by omega)
                    have wa3 : IntKind.i64.wrap (qm - q3) = qm - q3 := IntWalk.i64_in _ (by omega)
                    have wa4 : IntKind.i64.wrap (ss + (qm - q3)) = ss + (qm - q3) := IntWalk.i64_in _ (by omega)
                    obtain ⟨ca, cc, rfl⟩ := own_shape HCi.out
                    have HCA : Hid (World.ownsRow (wr.alloc (.cells #[.string ⟨(z1 :: q1).toArray⟩, .int .i64 ra, .int .i64 (ra + rr + rk)] 156)) w.heap.size 156 3 (.slice ca L1.length cc) L1.length ((L1.map Flt.cells).flatten)) := World.ownsRow.alloc HCi.out (.cells #[.string ⟨(z1 :: q1).toArray⟩, .int .i64 ra, .int .i64 (ra + rr + rk)] 156)
                    have HNC : Hid (Blk (wr.alloc (.cells #[.string ⟨(z1 :: q1).toArray⟩, .int .i64 ra, .int .i64 (ra + rr + rk)] 156)) wr.heap.size [.string ⟨(z1 :: q1).toArray⟩, .int .i64 ra, .int .i64 (ra + rr + rk)] 156) := Blk.new wr [.string ⟨(z1 :: q1).toArray⟩, .int .i64 ra, .int .i64 (ra + rr + rk)] 156
                    have hWi : w.heap.size ≤ wr.heap.size := HBi.out.size
                    have hvc : ∀ b, (Value.slice ca L1.length cc).ownBlock = some b → w.heap.size ≤ b := fun b e => (HCi.out.lt b e).1
                    as_aux_lemma =>
                      go_wp2_with (first | (refine wpList_val rfl (bl_snw1 _ (fun _ => rfl) _ _ 105 ⟨(z1 :: q1).toArray⟩ ra ((ra + rr + rk)) rfl rfl) ?_) | (at_builtin; go_loud (refine wpList_append_own_at _ rfl (.tmp 91) (.tmp 106) 153 rfl w.heap.size 156 i2 _ 3 32 Tryz.underlying153 hi2 hz0 hz1 hz2 rfl (by omega) (.slice ca L1.length cc) L1.length _ rfl HCA.out ⟨wr.heap.size, 0, none⟩ 1 1 [.string ⟨(z1 :: q1).toArray⟩, .int .i64 ra, .int .i64 (ra + rr + rk)] rfl rfl (fun j u hj => by rw [add0]; exact HNC.out.cell j hj) (by simp [Value.oneCell']) (by simp only [maxLen]; omega) (by omega) (by simp; omega) ?_); intro v9 w9 hown9 hgr9 _ hat9; have HQ1 := Lib.hid hown9; have HQ2 := Lib.hid hgr9; clear hown9 hgr9 hat9 HCA HNC; refine Hid.out ?_))
                      refine Lib.hid ?_
                      have HC9 := Lib.hid (lst_snoc (r := ⟨z1 :: q1, ra, ra + rr + rk⟩) HQ1.out)
                      have hg9 := gb_alloc HQ2.out
                      have HO9 := Lib.hid (own_gb HOi.out hg9 (fun b h9 e => own_types HOi.out HCi.out (by decide) b h9 e))
                      have HY9 := Lib.hid (HYi.out.grown hg9 (own_blk HCi.out HYi.out (by decide)))
                      have HB9 : Hid (Below w.heap.size w w9) := HBi.out.trans (upto_grown HQ2.out hWi hvc)
                      clear HQ1 HQ2 hg9 HOi HCi HBi HYi HXi y0 y1 y2 y3 x3 x4 x5
                      have y0 := HY9.out.cell 0 rfl
                      have y1 := HY9.out.cell 1 rfl
                      have y2 := HY9.out.cell 2 rfl
                      have y3 := HY9.out.cell 3 rfl
                      obtain ⟨oa, oc, rfl⟩ := own_shape HO9.out
                      have HOA : Hid (World.ownsRow (w9.alloc (.cells #[.string ⟨q0.toArray⟩, .string ⟨(z1 :: q1).toArray⟩, .int .i64 q2, .int .i64 q3] 102)) w.heap.size 102 4 (.slice oa so.length oc) so.length ((so.map Snt.cells).flatten)) := World.ownsRow.alloc HO9.out (.cells #[.string ⟨q0.toArray⟩, .string ⟨(z1 :: q1).toArray⟩, .int .i64 q2, .int .i64 q3] 102)
                      have HNA : Hid (Blk (w9.alloc (.cells #[.string ⟨q0.toArray⟩, .string ⟨(z1 :: q1).toArray⟩, .int .i64 q2, .int .i64 q3] 102)) w9.heap.size [.string ⟨q0.toArray⟩, .string ⟨(z1 :: q1).toArray⟩, .int .i64 q2, .int .i64 q3] 102) := Blk.new w9 [.string ⟨q0.toArray⟩, .string ⟨(z1 :: q1).toArray⟩, .int .i64 q2, .int .i64 q3] 102
                      have hW9 : w.heap.size ≤ w9.heap.size := HB9.out.size
                      have hvw : ∀ b, (Value.slice oa so.length oc).ownBlock = some b → w.heap.size ≤ b := fun b e => (HO9.out.lt b e).1
                      as_aux_lemma =>
                        go_wp2_with (first | (refine wpList_val rfl (bl_snw0 _ (fun _ => rfl) _ _ 115 ⟨q0.toArray⟩ ⟨(z1 :: q1).toArray⟩ q2 q3 rfl rfl) ?_) | (at_builtin; go_loud (refine wpList_append_own_at _ rfl (.tmp 114) (.tmp 116) 92 rfl w.heap.size 102 i1 _ 4 48 Tryz.underlying92 hi1 hy0 hy1 hy2 rfl (by omega) (.slice oa so.length oc) so.length _ rfl HOA.out ⟨w9.heap.size, 0, none⟩ 1 1 [.string ⟨q0.toArray⟩, .string ⟨(z1 :: q1).toArray⟩, .int .i64 q2, .int .i64 q3] rfl rfl (fun j u hj => by rw [add0]; exact HNA.out.cell j hj) (by simp [Value.oneCell']) (by simp only [maxLen]; omega) (by omega) (by simp; omega) ?_); intro v12 w12 hown12 hgr12 _ hat12; have HQ1 := Lib.hid hown12; have HQ2 := Lib.hid hgr12; clear hown12 hgr12 hat12 HOA HNA; refine Hid.out ?_))
                        refine Lib.hid ?_
                        have HO12 := Lib.hid (snt_snoc (r := ⟨q0, (z1 :: q1), q2, q3⟩) HQ1.out)
                        have hg12 := gb_alloc HQ2.out
                        have HC12 := Lib.hid (own_gb HC9.out hg12 (fun b h9 e => own_types HC9.out HO9.out (by decide) b h9 e))
                        have HB12 : Hid (Below w.heap.size w w12) := HB9.out.trans (upto_grown HQ2.out hW9 hvw)
                        clear HQ1 HQ2 hg12 HO9 HC9 HB9
                        as_aux_lemma =>
                          go_wp2_with fail
                          go_roundw
                          case rel => exact ⟨k + 1, (⟨so ++ [(⟨q0, (z1 :: q1), q2, q3⟩ : Snt)], L1 ++ [(⟨z1 :: q1, ra, ra + rr + rk⟩ : Flt)], ss + (qm - q3)⟩ : SSt), by omega, by go_num, HN.out.symm, rfl, HO12.out, HC12.out, HB12.out⟩
                          case measure => simp [intOf]; omega
                have hloi : (i : Int) < (os.length : Int) := by omega
                have HSO : Hid (sendO l f L1 ⟨ri, rf, rt, ra, rr, rk, rh, rc⟩ os (i + 1) = stepO l f L1 ⟨ri, rf, rt, ra, rr, rk, rh, rc⟩ (sendO l f L1 ⟨ri, rf, rt, ra, rr, rk, rh, rc⟩ os i) (os.getD i noOff)) := rfl
                have HID := Lib.hid (HOI.out i hlo)
                have HPP := Lib.hid (HPB.out i hlo)
                generalize sendO l f L1 ⟨ri, rf, rt, ra, rr, rk, rh, rc⟩ os i = q at HYi ht0 ht1 hp0 hp1 hm0 hm1 HSO ⊢
                obtain ⟨⟨q0, q1, q2, q3⟩, qm⟩ := q
                simp only [Snt.cells] at HYi ht0 ht1 hp0 hp1 hm0 hm1 ⊢
                have HXi := Lib.hid (HX4.out.grown HGi.out (fun e => by injection e; omega))
                have HWi := Lib.hid (own_gb HW4.out HGi.out (fun b h9 e => by
                  have h8 := own_blk HW4.out HY4'.out (by decide)
                  exact h8 (by rw [h9, ← e])))
                have HCi := Lib.hid (own_gb HC4.out HGi.out (fun b h9 e => by
                  have h8 := own_blk HC4.out HY4'.out (by decide)
                  exact h8 (by rw [h9, ← e])))
                have HBi := Lib.hid (HB4.out.trans (gb_to_below HGi.out HB4.out.size (fun b e => by injection e; omega)))
                obtain ⟨g, rfl, hg0, hg1⟩ := own_pos HWi.out (by omega)
                have c0 := own_field Off.cells (fun _ => rfl) HWi.out i 0 noOff hlo (by omega) rfl
                have c1 := own_field Off.cells (fun _ => rfl) HWi.out i 1 noOff hlo (by omega) rfl
                rw [Nat.add_zero] at c0
                have HHX : Hid (os.getD i noOff = os.getD i noOff) := rfl
                generalize os.getD i noOff = ox at c0 c1 HSO HID HPP
                obtain ⟨oc, op⟩ := ox
                simp only at c0 c1 HID HPP
                obtain ⟨hpp0, hpp1⟩ := HPP.out
                have hA : Below wr.heap.size wr (wr.alloc (.cells #[.string ⟨oc.toArray⟩, .int .i64 op] 80)) := ext_alloc (Below.refl _ _)
                have HVA : Hid (Blk (wr.alloc (.cells #[.string ⟨oc.toArray⟩, .int .i64 op] 80)) wr.heap.size [.string ⟨oc.toArray⟩, .int .i64 op] 80) := Blk.new wr [.string ⟨oc.toArray⟩, .int .i64 op] 80
                have HYA := Lib.hid (HYi.out.below hA)
                have HXA := Lib.hid (HXi.out.below hA)
                have HCA := Lib.hid (own_keep HCi.out hA)
                have HBA := Lib.hid (ext_trans HBi.out hA)
                have HGA := Lib.hid (gb_below HGi.out hA)
                have HYi' := HYi
                clear hA HYi HXi HCi HBi HGi HWi
                as_aux_lemma =>
                  go_upto_region 12 with (fail)
                  generalize wr.alloc (.cells #[.string ⟨oc.toArray⟩, .int .i64 op] 80) = w5 at HVA HYA HXA HCA HBA HGA ⊢
                  have hVY : wr.heap.size ≠ Y := by have := HYi'.out.lt; omega
                  generalize wr.heap.size = V at HVA hVY ⊢
                  clear c0 c1
                  have v0 := HVA.out.cell 0 rfl
                  have x3 := HXA.out.cell 3 rfl
                  have h1i : ¬ (rt.length : Int) < 1 := by omega
                  have HFREE := Lib.hid (free_any w5 a n cap l (HCR.out.below HBA.out) a1 n1 cap1 f (HFR.out.below HBA.out) w.heap.size _ L1 HCA.out (by omega) oc ra HID.out)
                  have HSO2 : Hid (sendO l f L1 ⟨ri, rf, rt, ra, rr, rk, rh, rc⟩ os (i + 1) = if freeB l f L1 oc ra = false then ((if q1 = [] then ⟨q0, q1, q2 + 1, q3⟩ else ⟨q0, q1, q2, q3⟩), qm) else ((if q1 = [] then ⟨q0, oc, q2, priceBy l ⟨ri, rf, rt, ra, rr, rk, rh, rc⟩ oc⟩ else ⟨q0, q1, q2, q3⟩), max qm (priceBy l ⟨ri, rf, rt, ra, rr, rk, rh, rc⟩ oc))) := HSO.out
                  generalize freeB l f L1 oc ra = fb at HFREE HSO2
                  clear HSO
                  as_aux_lemma =>
                    go_wp2_with fail
                    refine HFREE.out.mono ?_
                    rintro e w6 ⟨rfl, hb6⟩
                    have HV6 := Lib.hid (HVA.out.below hb6)
                    have HY6 := Lib.hid (HYA.out.below hb6)
                    have HX6 := Lib.hid (HXA.out.below hb6)
                    have HB6 := Lib.hid (ext_trans HBA.out hb6)
                    have HG6 := Lib.hid (gb_below HGA.out hb6)
                    clear hb6 HVA HYA HXA HCA HBA HGA HFREE v0 x3
                    cases fb
                    · have y0 := HY6.out.cell 0 rfl
                      have y1 := HY6.out.cell 1 rfl
                      have y2 := HY6.out.cell 2 rfl
                      have yf := HY6.out.fr
                      have wt : IntKind.i64.wrap (q2 + 1) = q2 + 1 := IntWalk.i64_in _ (by omega)
                      cases q1 with
                      | nil =>
                        have HE : Hid (sendO l f L1 ⟨ri, rf, rt, ra, rr, rk, rh, rc⟩ os (i + 1) = (⟨q0, [], q2 + 1, q3⟩, qm)) := by show _ = _; rw [HSO2.out, if_pos rfl, if_pos rfl]
                        have HY7 := Lib.hid (HY6.out.put 2 (.int .i64 (q2 + 1)))
                        have HG7 : Hid (w4.grownBy (w6.setCell ⟨Y, 2, none⟩ (.int .i64 (q2 + 1))) (some Y)) := gb_trans HG6.out (setCells_gb Y [.int .i64 (q2 + 1)] 2)
                        clear HSO2 HY6 HG6 HB6 HX6 HV6
                        as_aux_lemma =>
                          go_wp2_with fail
                          go_roundw
                          case rel => exact ⟨i + 1, by omega, by go_num, by rw [HE.out], by rw [HE.out]; exact HY7.out, HG7.out⟩
                          case measure => simp [intOf]; omega
                      | cons z1 q1 =>
                        have HE : Hid (sendO l f L1 ⟨ri, rf, rt, ra, rr, rk, rh, rc⟩ os (i + 1) = (⟨q0, z1 :: q1, q2, q3⟩, qm)) := by show _ = _; rw [HSO2.out, if_pos rfl, if_neg (by simp)]
                        clear HSO2
                        as_aux_lemma =>
                          go_wp2_with fail
                          go_roundw
                          case rel => exact ⟨i + 1, by omega, by go_num, by rw [HE.out], by rw [HE.out]; exact HY6.out, HG6.out⟩
                          case measure => simp [intOf]; omega
                    have HSO3 : Hid (sendO l f L1 ⟨ri, rf, rt, ra, rr, rk, rh, rc⟩ os (i + 1) = ((if q1 = [] then ⟨q0, oc, q2, priceBy l ⟨ri, rf, rt, ra, rr, rk, rh, rc⟩ oc⟩ else ⟨q0, q1, q2, q3⟩), max qm (priceBy l ⟨ri, rf, rt, ra, rr, rk, rh, rc⟩ oc))) := by show _ = _; rw [HSO2.out, if_neg (by decide)]
                    clear HSO2
                    have HQL := Lib.hid (idxC_lt HID.out)
                    obtain ⟨qi, hqi⟩ : ∃ qi : Nat, idxC l oc = (qi : Int) := ⟨(idxC l oc).toNat, by have := HID.out; omega⟩
                    have hqn : qi < l.length := by have := HQL.out; rw [hqi] at this; simpa using this
                    have HFD : Hid (∀ W, Below w6.heap.size w6 W → Calls Tryz.prog 58 #[.slice a n cap, .string ⟨oc.toArray⟩] W fun e w' => e = .returned (.int .i64 (qi : Int)) ∧ Below W.heap.size W w') := fun W hW => by
                      have := find_any W a n cap l (HCR.out.below (ext_trans HB6.out hW)) oc
                      rw [hqi] at this
                      exact this
                    have HPD : Hid (priceBy l ⟨ri, rf, rt, ra, rr, rk, rh, rc⟩ oc = (costV (l.getD qi noCarr).decks (rt.drop 1) ra rk).1) := by
                      show (costV (l.getD (idxC l oc).toNat noCarr).decks (rt.drop 1) ra rk).1 = _
                      rw [hqi, Int.toNat_natCast]
                    have hnl := HCR.out.len
                    obtain ⟨b9, off9, hab, hb9, hcc⟩ := (HCR.out.below HB6.out).at (by omega)
                    obtain ⟨k0, k1, k2⟩ := hcc qi (by omega)
                    have HCF : Hid (CarrFine w6 (l.getD qi noCarr)) := (HCR.out.below HB6.out).each qi hqn
                    have HGK : Hid (∀ d, deckV (l.getD qi noCarr).decks ra = some d → DeckGood d.setup d.least d.step d.rates) := HG.out ra qi hqn
                    have hqni : (qi : Int) < (n : Int) := by omega
                    have hnd : (rt.drop 1).length ≤ 1000 := by rw [List.length_drop]; omega
                    have HEX : Hid ((⟨rt.toArray⟩ : ByteArray).extract 1 rt.length = ⟨(rt.drop 1).toArray⟩) := extract_drop rt 1
                    clear hcc hqi HQL
                    generalize priceBy l ⟨ri, rf, rt, ra, rr, rk, rh, rc⟩ oc = pp at HPD HSO3 hpp0 hpp1
                    generalize l.getD qi noCarr = cx at k0 k1 k2 HCF HGK HPD
                    obtain ⟨ky, ln, da, dn, dc, dk⟩ := cx
                    simp only at k0 k1 k2 HGK HPD
                    have HCB : Hid (∀ W, Below w6.heap.size w6 W → Calls Tryz.prog 84 #[.agg #[.string ⟨ky.toArray⟩, .int .i64 ln, .slice da dn dc], .string ((⟨rt.toArray⟩ : ByteArray).extract 1 rt.length), .int .i64 ra, .int .i64 rk] W (PriceOfPost (costV dk (rt.drop 1) ra rk) W)) := fun W hW => by
                      rw [HEX.out]
                      exact costBy_any W ky ln da dn dc dk (HCF.out.below hW).row HCF.out.cap (rt.drop 1) hnd ra rk HGK.out htalk
                    generalize costV dk (rt.drop 1) ra rk = CV at HCB HPD
                    obtain ⟨cp, cb⟩ := CV
                    obtain rfl : pp = cp := HPD.out
                    have HABC := Lib.hid (And.intro hab hnl)
                    clear HCF HGK HPD hnl
                    as_aux_lemma =>
                      go_upto_region 15 with (fail)
                      have HDW : Hid (Below w6.heap.size w6 w6.drew) := ext_drew (Below.refl _ _)
                      have HV7 := Lib.hid (HV6.out.below HDW.out)
                      have HX7 := Lib.hid (HX6.out.below HDW.out)
                      have k0 := (HDW.out.cell (p := ⟨b9, off9 + qi * 3, none⟩) hb9).trans k0
                      have k1 := (HDW.out.cell (p := ⟨b9, off9 + qi * 3 + 1, none⟩) hb9).trans k1
                      have k2 := (HDW.out.cell (p := ⟨b9, off9 + qi * 3 + 2, none⟩) hb9).trans k2
                      have v0 := HV7.out.cell 0 rfl
                      have x2 := HX7.out.cell 2 rfl
                      have x3 := HX7.out.cell 3 rfl
                      have x5 := HX7.out.cell 5 rfl
                      have hVl := HV7.out.lt
                      have hXl := HX7.out.lt
                      have hb9l : b9 < w6.drew.heap.size := hb9
                      have HF2 : Hid (Calls Tryz.prog 58 #[.slice a n cap, .string ⟨oc.toArray⟩] w6.drew fun e w' => e = .returned (.int .i64 (qi : Int)) ∧ Below w6.drew.heap.size w6.drew w') := HFD.out _ HDW.out
                      have HC2 : Hid (∀ W, Below w6.drew.heap.size w6.drew W → Calls Tryz.prog 84 #[.agg #[.string ⟨ky.toArray⟩, .int .i64 ln, .slice da dn dc], .string ((⟨rt.toArray⟩ : ByteArray).extract 1 rt.length), .int .i64 ra, .int .i64 rk] W (PriceOfPost (pp, cb) W)) := fun W hW => HCB.out W (ext_trans HDW.out hW)
                      have HY7 := Lib.hid (HY6.out.below HDW.out)
                      have HG7 := Lib.hid (gb_below HG6.out HDW.out)
                      obtain ⟨hab, hnl⟩ := HABC.out
                      subst hab
                      have HS0 : Hid (Below w6.drew.heap.size w6.drew w6.drew) := Below.refl _ _
                      clear HFD HCB HV6 HX6 HY6 HG6 HB6 HDW HV7 HX7 hb9 HABC
                      refine region_seqI (S := fun W => Below w6.drew.heap.size w6.drew W) [(true, 0), (true, 1), (true, 2), (true, 3), (true, 7), (true, 8), (true, 9), (true, 10), (true, 11), (true, 12), (true, 13), (false, 4), (true, 5), (true, 6), (false, 14), (true, 15), (true, 16), (true, 17), (true, 18), (true, 19)] (by kernel_rfl) (by kernel_rfl) rfl (by kernel_rfl) HS0.out ?_
                      generalize w6.drew = wd at HF2 HC2 HY7 HG7 HS0 k0 k1 k2 v0 x2 x3 x5 hVl hXl hb9l ⊢
                      simp only [seqOps, List.getD_cons_zero, List.getD_cons_succ]
                      refine seqI_take (v := .slice (some ⟨b9, off9, none⟩) n cap) rfl (fun W hW => by clear hW; go_simp) (fun _ _ _ h => h) ?_
                      simp only [Act.put, List.setIfInBounds_toArray, List.set_cons_zero, List.set_cons_succ]
                      refine seqI_take (v := .slice (some ⟨b9, off9, none⟩) n cap) rfl (fun W hW => by clear hW; go_simp) (fun _ _ _ h => h) ?_
                      simp only [Act.put, List.setIfInBounds_toArray, List.set_cons_zero, List.set_cons_succ]
                      refine seqI_take (v := .pointer (some ⟨V, 0, none⟩)) rfl (fun W hW => by clear hW; go_simp) (fun _ _ _ h => h) ?_
                      simp only [Act.put, List.setIfInBounds_toArray, List.set_cons_zero, List.set_cons_succ]
                      refine seqI_take (v := .string ⟨oc.toArray⟩) rfl (fun W hW => by have m0 := (hW.cell (p := ⟨V, 0, none⟩) hVl).trans v0; go_simp) (fun _ _ _ h => h) ?_
                      simp only [Act.put, List.setIfInBounds_toArray, List.set_cons_zero, List.set_cons_succ]
                      refine seqI_take (v := .pointer (some ⟨X, 2, none⟩)) rfl (fun W hW => by clear hW; go_simp) (fun _ _ _ h => h) ?_
                      simp only [Act.put, List.setIfInBounds_toArray, List.set_cons_zero, List.set_cons_succ]
                      refine seqI_take (v := .string ⟨rt.toArray⟩) rfl (fun W hW => by have m2 := (hW.cell (p := ⟨X, 2, none⟩) hXl).trans x2; go_simp) (fun _ _ _ h => h) ?_
                      simp only [Act.put, List.setIfInBounds_toArray, List.set_cons_zero, List.set_cons_succ]
                      refine seqI_take (v := .string ((⟨rt.toArray⟩ : ByteArray).extract 1 rt.length)) rfl (fun W hW => by clear hW; go_simp) (fun _ _ _ h => h) ?_
                      simp only [Act.put, List.setIfInBounds_toArray, List.set_cons_zero, List.set_cons_succ]
                      refine seqI_take (v := .pointer (some ⟨X, 3, none⟩)) rfl (fun W hW => by clear hW; go_simp) (fun _ _ _ h => h) ?_
                      simp only [Act.put, List.setIfInBounds_toArray, List.set_cons_zero, List.set_cons_succ]
                      refine seqI_take (v := .int .i64 ra) rfl (fun W hW => by have m3 := (hW.cell (p := ⟨X, 3, none⟩) hXl).trans x3; go_simp) (fun _ _ _ h => h) ?_
                      simp only [Act.put, List.setIfInBounds_toArray, List.set_cons_zero, List.set_cons_succ]
                      refine seqI_take (v := .pointer (some ⟨X, 5, none⟩)) rfl (fun W hW => by clear hW; go_simp) (fun _ _ _ h => h) ?_
                      simp only [Act.put, List.setIfInBounds_toArray, List.set_cons_zero, List.set_cons_succ]
                      refine seqI_take (v := .int .i64 rk) rfl (fun W hW => by have m5 := (hW.cell (p := ⟨X, 5, none⟩) hXl).trans x5; go_simp) (fun _ _ _ h => h) ?_
                      simp only [Act.put, List.setIfInBounds_toArray, List.set_cons_zero, List.set_cons_succ]
                      refine seqI_call 58 #[.slice (some ⟨b9, off9, none⟩) n cap, .string ⟨oc.toArray⟩] rfl (by go_simp) HF2.out ?_
                      rintro e w7 ⟨rfl, hb7⟩
                      refine ⟨_, rfl, hb7, ?_⟩
                      simp only [Act.put, List.setIfInBounds_toArray, List.set_cons_zero, List.set_cons_succ]
                      refine seqI_take (v := .pointer (some ⟨b9, off9 + qi * 3, none⟩)) rfl (fun W hW => by clear hW; go_simp) (fun _ _ _ h => h) ?_
                      simp only [Act.put, List.setIfInBounds_toArray, List.set_cons_zero, List.set_cons_succ]
                      refine seqI_take (v := .agg #[.string ⟨ky.toArray⟩, .int .i64 ln, .slice da dn dc]) rfl (fun W hW => by have m0 := (hW.cell (p := ⟨b9, off9 + qi * 3, none⟩) hb9l).trans k0; have m1 := (hW.cell (p := ⟨b9, off9 + qi * 3 + 1, none⟩) hb9l).trans k1; have m2 := (hW.cell (p := ⟨b9, off9 + qi * 3 + 2, none⟩) hb9l).trans k2; go_simp) (fun _ _ _ h => h) ?_
                      simp only [Act.put, List.setIfInBounds_toArray, List.set_cons_zero, List.set_cons_succ]
                      refine seqI_call 84 #[.agg #[.string ⟨ky.toArray⟩, .int .i64 ln, .slice da dn dc], .string ((⟨rt.toArray⟩ : ByteArray).extract 1 rt.length), .int .i64 ra, .int .i64 rk] rfl (by go_simp) (HC2.out _ hb7) ?_
                      rintro e w8 ⟨rfl, hb8⟩
                      have hb9 := ext_trans hb7 hb8
                      refine ⟨_, rfl, hb9, ?_⟩
                      simp only [Act.put, List.setIfInBounds_toArray, List.set_cons_zero, List.set_cons_succ]
                      refine seqI_take (v := .tuple #[.int .i64 pp, .bool cb]) rfl (fun W hW => by clear hW; go_simp) (fun _ _ _ h => h) ?_
                      simp only [Act.put, List.setIfInBounds_toArray, List.set_cons_zero, List.set_cons_succ]
                      refine seqI_take (v := .int .i64 pp) rfl (fun W hW => by clear hW; go_simp) (fun _ _ _ h => h) ?_
                      simp only [Act.put, List.setIfInBounds_toArray, List.set_cons_zero, List.set_cons_succ]
                      refine seqI_take (v := .bool cb) rfl (fun W hW => by clear hW; go_simp) (fun _ _ _ h => h) ?_
                      simp only [Act.put, List.setIfInBounds_toArray, List.set_cons_zero, List.set_cons_succ]
                      refine seqI_take (v := .int .i64 pp) rfl (fun W hW => by clear hW; go_simp) (fun _ _ _ h => h) ?_
                      simp only [Act.put, List.setIfInBounds_toArray, List.set_cons_zero, List.set_cons_succ]
                      refine seqI_take (v := .bool cb) rfl (fun W hW => by clear hW; go_simp) (fun _ _ _ h => h) ?_
                      simp only [Act.put, List.setIfInBounds_toArray, List.set_cons_zero, List.set_cons_succ]
                      refine seqI_nil ?_
                      have HY8 := Lib.hid (HY7.out.below hb9)
                      have HG8 := Lib.hid (gb_below HG7.out hb9)
                      have y1 := HY8.out.cell 1 rfl
                      have y3 := HY8.out.cell 3 rfl
                      have yf := HY8.out.fr
                      have v0 := (hb9.cell (p := ⟨V, 0, none⟩) hVl).trans v0
                      clear hb7 hb8 hb9 HF2 HC2 HY7 HG7 HS0 k0 k1 k2 x2 x3 x5 hVl hXl hb9l HYi'
                      cases q1 with
                      | nil =>
                        have HE : Hid (sendO l f L1 ⟨ri, rf, rt, ra, rr, rk, rh, rc⟩ os (i + 1) = (⟨q0, oc, q2, pp⟩, max qm pp)) := by show _ = _; rw [HSO3.out, if_pos rfl]
                        have HY9 := Lib.hid ((HY8.out.put 1 (.string ⟨oc.toArray⟩)).put 3 (.int .i64 pp))
                        have HG9 : Hid (w4.grownBy ((w8.setCell ⟨Y, 1, none⟩ (.string ⟨oc.toArray⟩)).setCell ⟨Y, 3, none⟩ (.int .i64 pp)) (some Y)) := gb_trans (gb_trans HG8.out (setCells_gb Y [.string ⟨oc.toArray⟩] 1)) (setCells_gb Y [.int .i64 pp] 3)
                        clear HSO3 HY8 HG8
                        as_aux_lemma =>
                          go_wp2_with fail
                          go_roundw
                          case rel => exact ⟨i + 1, by omega, by go_num, by rw [HE.out], by rw [HE.out]; exact HY9.out, HG9.out⟩
                          case measure => simp [intOf]; omega
                      | cons z1 q1 =>
                        have HE : Hid (sendO l f L1 ⟨ri, rf, rt, ra, rr, rk, rh, rc⟩ os (i + 1) = (⟨q0, z1 :: q1, q2, q3⟩, max qm pp)) := by show _ = _; rw [HSO3.out, if_neg (by simp)]
                        clear HSO3
                        as_aux_lemma =>
                          go_wp2_with fail
                          go_roundw
                          case rel => exact ⟨i + 1, by omega, by go_num, by rw [HE.out], by rw [HE.out]; exact HY8.out, HG8.out⟩
                          case measure => simp [intOf]; omega
end Go.Proofs.YtppinnjdaoaddaaGreatDoor

set_option linter.unusedVariables false
set_option linter.unusedSimpArgs false
namespace Go.Proofs.YtppinnjdaoaddaaGreatDoor
open Go.RowKit

set_option maxRecDepth 100000 in
set_option maxHeartbeats 4000000 in
theorem checkFlt_any (w : World) (a : Option Addr) (n cap : Nat) (l : List Carr) (hl : CarrRow w a n l) (hcap : n ≤ cap) (a2 : Option Addr) (m cap2 : Nat) (s : List Flt) (hs : FltRow w a2 m s) (hcap2 : m ≤ cap2) : Calls Tryz.prog 43 #[.slice a n cap, .slice a2 m cap2] w (ErrPost (chkFE l s) w) := by
  have hlen := hs.len
  have hfew := hs.few
  have HCR := Lib.hid hl
  have HSR := Lib.hid hs
  have HSC := Lib.hid (flts_cases l s (by omega))
  have HX : Hid (chkFE l s = if carrsErr l ≠ 0 then carrsErr l else fltsErr l s) := rfl
  generalize chkFE l s = Z at HX ⊢
  clear hl hs
  generalize fltsErr l s = R at HSC HX ⊢
  rw [← hlen] at HSC
  have HLEN := Lib.hid hlen
  clear hlen
  have hbig : ¬ (1000 : Int) < m := by omega
  go_enter Tryz.func43, Tryz.ntmps43
  go_wp2_with fail
  refine (checkCarr_any w a n cap l HCR.out hcap).mono ?_
  rintro e w0 ⟨rfl, hb0⟩
  have HB0 := Lib.hid hb0
  clear hb0
  generalize carrsErr l = C at HX ⊢
  by_cases hC : C = 0
  case neg =>
    have hCb : (C != 0) = true := by simp [hC]
    obtain rfl : Z = C := by rw [HX.out, if_pos hC]
    clear HX HSC
    as_aux_lemma =>
      go_wp2_with fail
      go_ret
      exact ⟨rfl, HB0.out⟩
  subst hC
  obtain rfl : R = Z := by rw [HX.out, if_neg (by simp)]
  clear HX
  as_aux_lemma =>
    go_wp2_with fail
    clear hbig
    go_loopw [18] (fun it wr => ∃ k : Nat, k ≤ m ∧ it = .int .i64 k ∧ Hid (∀ j, j < k → fltErr l s j = 0) ∧ Hid (Below w.heap.size w wr)) (fun it _ => m - (intOf it).toNat)
    case atStart => exact ⟨0, Nat.zero_le _, rfl, fun j hj => by omega, HB0.out⟩
    case round =>
      obtain ⟨k, hk, rfl, HZ, HB⟩ := hrel
      by_cases hlt : k < m
      case neg =>
        obtain rfl : k = m := by omega
        obtain rfl : R = 0 := HSC.out.2 HZ.out
        clear HSC HZ
        as_aux_lemma =>
          go_wp2_with fail
          go_ret
          exact ⟨rfl, HB.out⟩
      obtain ⟨b, off, rfl, hb, hc⟩ := HSR.out.at (by omega)
      have HCC := Lib.hid hc
      obtain ⟨q0, q1, q2⟩ := hc k hlt
      have c0 := (HB.out.cell (p := ⟨b, off + k * 3, none⟩) hb).trans q0
      have c1 := (HB.out.cell (p := ⟨b, off + k * 3 + 1, none⟩) hb).trans q1
      have c2 := (HB.out.cell (p := ⟨b, off + k * 3 + 2, none⟩) hb).trans q2
      obtain ⟨hcl, hfb, htb⟩ := HSR.out.each k (by rw [← HLEN.out]; exact hlt)
      have HER : Hid (fltErr l s k = if hasC l (s.getD k noFlt).c = false then 8
        else if (s.getD k noFlt).f < 0 ∨ (s.getD k noFlt).t ≤ (s.getD k noFlt).f ∨ 345686400000 < (s.getD k noFlt).t then 1
        else if 0 < k ∧ 0 ≤ fltCmp (s.getD (k - 1) noFlt) (s.getD k noFlt) then 7
        else 0) := rfl
      have HSTOP := Lib.hid (HSC.out.1 k hlt HZ.out)
      have HNX : Hid (fltErr l s k = 0 → ∀ j, j < k + 1 → fltErr l s j = 0) := fun h j hj => by
        rcases Nat.lt_succ_iff_lt_or_eq.1 hj with h9 | rfl
        · exact HZ.out j h9
        · exact h
      have HPV : Hid (0 < k → w.cell? ⟨b, off + (k - 1) * 3, none⟩ = some (.string ⟨(s.getD (k - 1) noFlt).c.toArray⟩) ∧ w.cell? ⟨b, off + (k - 1) * 3 + 1, none⟩ = some (.int .i64 (s.getD (k - 1) noFlt).f) ∧ w.cell? ⟨b, off + (k - 1) * 3 + 2, none⟩ = some (.int .i64 (s.getD (k - 1) noFlt).t)) := fun h => HCC.out (k - 1) (by omega)
      clear q0 q1 q2 hc HZ HCC HSC
      generalize fltErr l s k = X at HER HSTOP HNX
      generalize s.getD k noFlt = c at c0 c1 c2 hcl hfb htb HER
      generalize s.getD (k - 1) noFlt = q at HER HPV
      obtain ⟨cc, cf, ct⟩ := c
      obtain ⟨qc, qf, qt⟩ := q
      simp only at c0 c1 c2 hcl hfb htb HER HPV
      have HID : Hid (idxC l cc < 0 ↔ hasC l cc = false) := idxC_neg
      have HFD : Hid (∀ W a n cap, CarrRow W a n l → Calls Tryz.prog 58 #[.slice a n cap, .string ⟨cc.toArray⟩] W fun e w' => e = .returned (.int .i64 (idxC l cc)) ∧ Below W.heap.size W w') := fun W a n cap h => find_any W a n cap l h cc
      generalize idxC l cc = D at HID HFD
      generalize hasC l cc = g1 at HID HER
      have HX : Hid (Blk (wr.alloc (.cells #[.string ⟨cc.toArray⟩, .int .i64 cf, .int .i64 ct] 132)) wr.heap.size [.string ⟨cc.toArray⟩, .int .i64 cf, .int .i64 ct] 132) := Blk.new wr [.string ⟨cc.toArray⟩, .int .i64 cf, .int .i64 ct] 132
      have HBA : Hid (Below w.heap.size w (wr.alloc (.cells #[.string ⟨cc.toArray⟩, .int .i64 cf, .int .i64 ct] 132))) := ext_alloc HB.out
      clear HB
      as_aux_lemma =>
        go_upto_region 9 with (fail)
        generalize wr.alloc (.cells #[.string ⟨cc.toArray⟩, .int .i64 cf, .int .i64 ct] 132) = W1 at HX HBA ⊢
        generalize wr.heap.size = T at HX ⊢
        have x0 := HX.out.cell 0 rfl
        clear c0 c1 c2
        as_aux_lemma =>
          go_wp2_with fail
          refine (HFD.out _ a n cap (HCR.out.below HBA.out)).mono ?_
          rintro e w3 ⟨rfl, hb3⟩
          have HX3 := Lib.hid (HX.out.below hb3)
          have HB3 := Lib.hid (ext_trans HBA.out hb3)
          clear hb3 HX HBA HFD x0
          by_cases hD : D < 0
          · obtain rfl : X = 8 := by rw [HER.out, if_pos (HID.out.1 hD)]
            obtain rfl : R = 8 := HSTOP.out (by decide)
            clear HER HSTOP HNX HPV HID HX3
            skip
            as_aux_lemma =>
              go_wp2_with fail
              go_ret
              exact ⟨rfl, HB3.out⟩
          have HER1 : Hid (X = if cf < 0 ∨ ct ≤ cf ∨ 345686400000 < ct then 1
            else if 0 < k ∧ 0 ≤ fltCmp ⟨qc, qf, qt⟩ ⟨cc, cf, ct⟩ then 7
            else 0) := by show _ = _; rw [HER.out, if_neg (fun h => hD (HID.out.2 h))]
          clear HER HID
          have x0 := HX3.out.cell 0 rfl
          have x1 := HX3.out.cell 1 rfl
          have x2 := HX3.out.cell 2 rfl
          by_cases hf0 : cf < 0
          · obtain rfl : X = 1 := by rw [HER1.out, if_pos (Or.inl hf0)]
            obtain rfl : R = 1 := HSTOP.out (by decide)
            clear HER1 HSTOP HNX HPV HX3
            by_cases hft : ct ≤ cf
            · skip
              as_aux_lemma =>
                go_wp2_with fail
                go_ret
                exact ⟨rfl, HB3.out⟩
            · skip
              as_aux_lemma =>
                go_wp2_with fail
                go_ret
                exact ⟨rfl, HB3.out⟩
          by_cases hft : ct ≤ cf
          · obtain rfl : X = 1 := by rw [HER1.out, if_pos (Or.inr (Or.inl hft))]
            obtain rfl : R = 1 := HSTOP.out (by decide)
            clear HER1 HSTOP HNX HPV HX3
            skip
            as_aux_lemma =>
              go_wp2_with fail
              go_ret
              exact ⟨rfl, HB3.out⟩
          by_cases hte : 345686400000 < ct
          · obtain rfl : X = 1 := by rw [HER1.out, if_pos (Or.inr (Or.inr hte))]
            obtain rfl : R = 1 := HSTOP.out (by decide)
            clear HER1 HSTOP HNX HPV HX3
            skip
            as_aux_lemma =>
              go_wp2_with fail
              go_ret
              exact ⟨rfl, HB3.out⟩
          have HER2 : Hid (X = if 0 < k ∧ 0 ≤ fltCmp ⟨qc, qf, qt⟩ ⟨cc, cf, ct⟩ then 7
            else 0) := by show _ = _; rw [HER1.out, if_neg (fun h => by omega)]
          clear HER1
          obtain ⟨w5, rfl⟩ : ∃ x : World, x = w3 := ⟨_, rfl⟩
          by_cases hk0 : k = 0
          · subst hk0
            have HZ2 := Lib.hid (HNX.out (by rw [HER2.out, if_neg (fun h => by omega)]))
            clear HER2 HSTOP HNX HPV HX3
            skip
            as_aux_lemma =>
              go_upto_region 13 with (fail)
              have HS0 : Hid (Below w5.drew.heap.size w5.drew w5.drew) := Below.refl _ _
              refine region_seqI (S := fun W => Below w5.drew.heap.size w5.drew W) [(true, 0), (true, 1), (true, 2), (true, 3), (true, 4), (true, 5), (true, 6), (true, 7), (true, 8), (true, 9), (true, 10), (true, 11), (true, 12), (true, 13), (true, 14), (true, 15), (true, 16), (true, 17), (true, 18), (true, 19), (true, 20), (true, 21), (true, 22), (true, 23), (true, 24), (true, 25), (true, 26), (true, 27)] (by kernel_rfl) (by kernel_rfl) rfl (by kernel_rfl) HS0.out ?_
              simp only [seqOps, List.getD_cons_zero, List.getD_cons_succ]
              refine seqI_take (v := .int .i64 0) rfl (fun W hW => by go_simp) (fun _ _ _ h => h) ?_
              simp only [Act.put, List.setIfInBounds_toArray, List.set_cons_zero, List.set_cons_succ]
              refine seqI_take (v := .bool false) rfl (fun W hW => by go_simp) (fun _ _ _ h => h) ?_
              simp only [Act.put, List.setIfInBounds_toArray, List.set_cons_zero, List.set_cons_succ]
              refine seqI_take (v := .bool false) rfl (fun W hW => by go_simp) (fun _ _ _ h => h) ?_
              simp only [Act.put, List.setIfInBounds_toArray, List.set_cons_zero, List.set_cons_succ]
              refine seqI_skip rfl (fun _ _ _ h => h) ?_
              simp only [Act.put, List.setIfInBounds_toArray, List.set_cons_zero, List.set_cons_succ]
              refine seqI_skip rfl (fun _ _ _ h => h) ?_
              simp only [Act.put, List.setIfInBounds_toArray, List.set_cons_zero, List.set_cons_succ]
              refine seqI_skip rfl (fun _ _ _ h => h) ?_
              simp only [Act.put, List.setIfInBounds_toArray, List.set_cons_zero, List.set_cons_succ]
              refine seqI_skip rfl (fun _ _ _ h => h) ?_
              simp only [Act.put, List.setIfInBounds_toArray, List.set_cons_zero, List.set_cons_succ]
              refine seqI_skip rfl (fun _ _ _ h => h) ?_
              simp only [Act.put, List.setIfInBounds_toArray, List.set_cons_zero, List.set_cons_succ]
              refine seqI_skip rfl (fun _ _ _ h => h) ?_
              simp only [Act.put, List.setIfInBounds_toArray, List.set_cons_zero, List.set_cons_succ]
              refine seqI_skip rfl (fun _ _ _ h => h) ?_
              simp only [Act.put, List.setIfInBounds_toArray, List.set_cons_zero, List.set_cons_succ]
              refine seqI_skip rfl (fun _ _ _ h => h) ?_
              simp only [Act.put, List.setIfInBounds_toArray, List.set_cons_zero, List.set_cons_succ]
              refine seqI_skip rfl (fun _ _ _ h => h) ?_
              simp only [Act.put, List.setIfInBounds_toArray, List.set_cons_zero, List.set_cons_succ]
              refine seqI_skip rfl (fun _ _ _ h => h) ?_
              simp only [Act.put, List.setIfInBounds_toArray, List.set_cons_zero, List.set_cons_succ]
              refine seqI_skip rfl (fun _ _ _ h => h) ?_
              simp only [Act.put, List.setIfInBounds_toArray, List.set_cons_zero, List.set_cons_succ]
              refine seqI_skip rfl (fun _ _ _ h => h) ?_
              simp only [Act.put, List.setIfInBounds_toArray, List.set_cons_zero, List.set_cons_succ]
              refine seqI_skip rfl (fun _ _ _ h => h) ?_
              simp only [Act.put, List.setIfInBounds_toArray, List.set_cons_zero, List.set_cons_succ]
              refine seqI_skip rfl (fun _ _ _ h => h) ?_
              simp only [Act.put, List.setIfInBounds_toArray, List.set_cons_zero, List.set_cons_succ]
              refine seqI_skip rfl (fun _ _ _ h => h) ?_
              simp only [Act.put, List.setIfInBounds_toArray, List.set_cons_zero, List.set_cons_succ]
              refine seqI_skip rfl (fun _ _ _ h => h) ?_
              simp only [Act.put, List.setIfInBounds_toArray, List.set_cons_zero, List.set_cons_succ]
              refine seqI_skip rfl (fun _ _ _ h => h) ?_
              simp only [Act.put, List.setIfInBounds_toArray, List.set_cons_zero, List.set_cons_succ]
              refine seqI_skip rfl (fun _ _ _ h => h) ?_
              simp only [Act.put, List.setIfInBounds_toArray, List.set_cons_zero, List.set_cons_succ]
              refine seqI_skip rfl (fun _ _ _ h => h) ?_
              simp only [Act.put, List.setIfInBounds_toArray, List.set_cons_zero, List.set_cons_succ]
              refine seqI_skip rfl (fun _ _ _ h => h) ?_
              simp only [Act.put, List.setIfInBounds_toArray, List.set_cons_zero, List.set_cons_succ]
              refine seqI_skip rfl (fun _ _ _ h => h) ?_
              simp only [Act.put, List.setIfInBounds_toArray, List.set_cons_zero, List.set_cons_succ]
              refine seqI_skip rfl (fun _ _ _ h => h) ?_
              simp only [Act.put, List.setIfInBounds_toArray, List.set_cons_zero, List.set_cons_succ]
              refine seqI_skip rfl (fun _ _ _ h => h) ?_
              simp only [Act.put, List.setIfInBounds_toArray, List.set_cons_zero, List.set_cons_succ]
              refine seqI_take (v := .bool false) rfl (fun W hW => by go_simp) (fun _ _ _ h => h) ?_
              simp only [Act.put, List.setIfInBounds_toArray, List.set_cons_zero, List.set_cons_succ]
              refine seqI_take (v := .bool false) rfl (fun W hW => by go_simp) (fun _ _ _ h => h) ?_
              simp only [Act.put, List.setIfInBounds_toArray, List.set_cons_zero, List.set_cons_succ]
              refine seqI_nil ?_
              as_aux_lemma =>
                go_wp2_with fail
                go_roundw
                case rel => exact ⟨0 + 1, by omega, by go_num, HZ2.out, HB3.out.drew⟩
                case measure => simp [intOf]; omega
          obtain ⟨j, rfl⟩ : ∃ j, k = j + 1 := ⟨k - 1, by omega⟩
          obtain ⟨k0, k1, k2⟩ := HPV.out (by omega)
          rw [Nat.add_sub_cancel] at k0 k1 k2
          have w1 : IntKind.i64.wrap (j : Int) = j := IntWalk.i64_in _ (by omega)
          have w2 : IntKind.i64.wrap ((j : Int) + 1 - 1) = j := by rw [Int.add_sub_cancel]; exact w1
          have w3' : (j : Int) < m := by omega
          have w4 : (0 : Int) ≤ (j : Int) := by omega
          have hk1 : (0 : Int) < (j : Int) + 1 := by omega
          have HER3 : Hid (X = if 0 ≤ fltCmp ⟨qc, qf, qt⟩ ⟨cc, cf, ct⟩ then 7 else 0) := by
            show _ = _
            rw [HER2.out]
            congr 1
            exact propext ⟨fun h => h.2, fun h => ⟨by omega, h⟩⟩
          have HC1 : Hid (∀ W, Calls Tryz.prog 83 #[.string ⟨qc.toArray⟩, .string ⟨cc.toArray⟩] W fun e w' => e = .returned (.int .i64 (Lib.compareBytes qc cc)) ∧ w' = W) := fun W => Tryz.strings_Compare ⟨qc.toArray⟩ ⟨cc.toArray⟩ W
          have HC2 : Hid (∀ W, Calls Tryz.prog 82 #[.int .i64 qf, .int .i64 cf] W fun e w' => e = .returned (.int .i64 (Lib.compareInt qf cf)) ∧ w' = W) := fun W => Tryz.cmp_Compare qf cf W
          have HER4 : Hid (X = if 0 ≤ firstE (Lib.compareBytes qc cc) (Lib.compareInt qf cf) then 7 else 0) := HER3.out
          generalize Lib.compareBytes qc cc = r1 at HC1 HER4
          generalize Lib.compareInt qf cf = r2 at HC2 HER4
          clear HER2 HER3 HPV hk0
          as_aux_lemma =>
            go_upto_region 13 with (fail)
            clear x0 x1 x2
            have g0 : w5.drew.cell? ⟨b, off + j * 3, none⟩ = some (.string ⟨qc.toArray⟩) := (HB3.out.cell (p := ⟨b, off + j * 3, none⟩) hb).trans k0
            have g1 : w5.drew.cell? ⟨b, off + j * 3 + 1, none⟩ = some (.int .i64 qf) := (HB3.out.cell (p := ⟨b, off + j * 3 + 1, none⟩) hb).trans k1
            have g2 : w5.drew.cell? ⟨b, off + j * 3 + 2, none⟩ = some (.int .i64 qt) := (HB3.out.cell (p := ⟨b, off + j * 3 + 2, none⟩) hb).trans k2
            have d0 : w5.drew.cell? ⟨T, 0, none⟩ = some (.string ⟨cc.toArray⟩) := HX3.out.cell 0 rfl
            have d1 : w5.drew.cell? ⟨T, 1, none⟩ = some (.int .i64 cf) := HX3.out.cell 1 rfl
            have d2 : w5.drew.cell? ⟨T, 2, none⟩ = some (.int .i64 ct) := HX3.out.cell 2 rfl
            have hT : T < w5.drew.heap.size := HX3.out.lt
            have hbw : b < w5.drew.heap.size := Nat.lt_of_lt_of_le hb HB3.out.size
            have HX5 : Hid (Below w.heap.size w w5.drew) := HB3.out.drew
            have HS0 : Hid (Below w5.drew.heap.size w5.drew w5.drew) := Below.refl _ _
            clear k0 k1 k2 HB3 HX3
            refine region_seqI (S := fun W => Below w5.drew.heap.size w5.drew W) [(true, 0), (true, 1), (true, 2), (true, 3), (true, 4), (true, 5), (true, 6), (true, 7), (true, 8), (true, 9), (true, 10), (true, 12), (true, 13), (true, 14), (true, 15), (true, 16), (true, 17), (true, 18), (true, 19), (true, 20), (true, 21), (false, 11), (false, 22), (false, 23), (false, 24), (true, 25), (true, 26), (true, 27)] (by kernel_rfl) (by kernel_rfl) rfl (by kernel_rfl) HS0.out ?_
            generalize w5.drew = wd at HS0 HX5 g0 g1 g2 d0 d1 d2 hT hbw ⊢
            simp only [seqOps, List.getD_cons_zero, List.getD_cons_succ]
            refine seqI_take (v := .int .i64 ((j : Int) + 1)) rfl (fun W hW => by go_simp) (fun _ _ _ h => h) ?_
            simp only [Act.put, List.setIfInBounds_toArray, List.set_cons_zero, List.set_cons_succ]
            refine seqI_take (v := .bool true) rfl (fun W hW => by go_simp) (fun _ _ _ h => h) ?_
            simp only [Act.put, List.setIfInBounds_toArray, List.set_cons_zero, List.set_cons_succ]
            refine seqI_take (v := .bool true) rfl (fun W hW => by go_simp) (fun _ _ _ h => h) ?_
            simp only [Act.put, List.setIfInBounds_toArray, List.set_cons_zero, List.set_cons_succ]
            refine seqI_take (v := .slice (some ⟨b, off, none⟩) m cap2) rfl (fun W hW => by go_simp) (fun _ _ _ h => h) ?_
            simp only [Act.put, List.setIfInBounds_toArray, List.set_cons_zero, List.set_cons_succ]
            refine seqI_take (v := .int .i64 ((j : Int) + 1)) rfl (fun W hW => by go_simp) (fun _ _ _ h => h) ?_
            simp only [Act.put, List.setIfInBounds_toArray, List.set_cons_zero, List.set_cons_succ]
            refine seqI_take (v := .int .i64 (j : Int)) rfl (fun W hW => by go_simp) (fun _ _ _ h => h) ?_
            simp only [Act.put, List.setIfInBounds_toArray, List.set_cons_zero, List.set_cons_succ]
            refine seqI_take (v := .pointer (some ⟨b, off + j * 3, none⟩)) rfl (fun W hW => by go_simp) (fun _ _ _ h => h) ?_
            simp only [Act.put, List.setIfInBounds_toArray, List.set_cons_zero, List.set_cons_succ]
            refine seqI_take (v := .pointer (some ⟨b, off + j * 3, none⟩)) rfl (fun W hW => by go_simp) (fun _ _ _ h => h) ?_
            simp only [Act.put, List.setIfInBounds_toArray, List.set_cons_zero, List.set_cons_succ]
            refine seqI_take (v := .string ⟨qc.toArray⟩) rfl (fun W hW => by have m0 := (hW.cell (p := ⟨b, off + j * 3, none⟩) hbw).trans g0; go_simp) (fun _ _ _ h => h) ?_
            simp only [Act.put, List.setIfInBounds_toArray, List.set_cons_zero, List.set_cons_succ]
            refine seqI_take (v := .pointer (some ⟨T, 0, none⟩)) rfl (fun W hW => by go_simp) (fun _ _ _ h => h) ?_
            simp only [Act.put, List.setIfInBounds_toArray, List.set_cons_zero, List.set_cons_succ]
            refine seqI_take (v := .string ⟨cc.toArray⟩) rfl (fun W hW => by have n0 := (hW.cell (p := ⟨T, 0, none⟩) hT).trans d0; go_simp) (fun _ _ _ h => h) ?_
            simp only [Act.put, List.setIfInBounds_toArray, List.set_cons_zero, List.set_cons_succ]
            refine seqI_take (v := .slice (some ⟨b, off, none⟩) m cap2) rfl (fun W hW => by go_simp) (fun _ _ _ h => h) ?_
            simp only [Act.put, List.setIfInBounds_toArray, List.set_cons_zero, List.set_cons_succ]
            refine seqI_take (v := .int .i64 ((j : Int) + 1)) rfl (fun W hW => by go_simp) (fun _ _ _ h => h) ?_
            simp only [Act.put, List.setIfInBounds_toArray, List.set_cons_zero, List.set_cons_succ]
            refine seqI_take (v := .int .i64 (j : Int)) rfl (fun W hW => by go_simp) (fun _ _ _ h => h) ?_
            simp only [Act.put, List.setIfInBounds_toArray, List.set_cons_zero, List.set_cons_succ]
            refine seqI_take (v := .pointer (some ⟨b, off + j * 3, none⟩)) rfl (fun W hW => by go_simp) (fun _ _ _ h => h) ?_
            simp only [Act.put, List.setIfInBounds_toArray, List.set_cons_zero, List.set_cons_succ]
            refine seqI_take (v := .pointer (some ⟨b, off + j * 3 + 1, none⟩)) rfl (fun W hW => by go_simp) (fun _ _ _ h => h) ?_
            simp only [Act.put, List.setIfInBounds_toArray, List.set_cons_zero, List.set_cons_succ]
            refine seqI_take (v := .pointer (some ⟨b, off + j * 3 + 1, none⟩)) rfl (fun W hW => by go_simp) (fun _ _ _ h => h) ?_
            simp only [Act.put, List.setIfInBounds_toArray, List.set_cons_zero, List.set_cons_succ]
            refine seqI_take (v := .int .i64 qf) rfl (fun W hW => by have m1 := (hW.cell (p := ⟨b, off + j * 3 + 1, none⟩) hbw).trans g1; go_simp) (fun _ _ _ h => h) ?_
            simp only [Act.put, List.setIfInBounds_toArray, List.set_cons_zero, List.set_cons_succ]
            refine seqI_take (v := .pointer (some ⟨T, 1, none⟩)) rfl (fun W hW => by go_simp) (fun _ _ _ h => h) ?_
            simp only [Act.put, List.setIfInBounds_toArray, List.set_cons_zero, List.set_cons_succ]
            refine seqI_take (v := .pointer (some ⟨T, 1, none⟩)) rfl (fun W hW => by go_simp) (fun _ _ _ h => h) ?_
            simp only [Act.put, List.setIfInBounds_toArray, List.set_cons_zero, List.set_cons_succ]
            refine seqI_take (v := .int .i64 cf) rfl (fun W hW => by have n1 := (hW.cell (p := ⟨T, 1, none⟩) hT).trans d1; go_simp) (fun _ _ _ h => h) ?_
            simp only [Act.put, List.setIfInBounds_toArray, List.set_cons_zero, List.set_cons_succ]
            refine seqI_call 83 #[.string ⟨qc.toArray⟩, .string ⟨cc.toArray⟩] rfl (by go_simp) (HC1.out _) ?_
            rintro e w6 ⟨rfl, hw6⟩
            replace hw6 := hw6.symm
            subst hw6
            refine ⟨_, rfl, HS0.out, ?_⟩
            simp only [Act.put, List.setIfInBounds_toArray, List.set_cons_zero, List.set_cons_succ]
            refine seqI_call 82 #[.int .i64 qf, .int .i64 cf] rfl (by go_simp) (HC2.out _) ?_
            rintro e w6 ⟨rfl, hw6⟩
            replace hw6 := hw6.symm
            subst hw6
            refine ⟨_, rfl, HS0.out, ?_⟩
            simp only [Act.put, List.setIfInBounds_toArray, List.set_cons_zero, List.set_cons_succ]
            refine seqI_do rfl (wp_made (v := .slice (some ⟨wd.heap.size, 0, none⟩) 2 2) (w' := wd.alloc (.cells #[.int .i64 r1, .int .i64 r2] 3)) (by go_simp) ⟨ext_alloc HS0.out, ?_⟩)
            simp only [Act.put, List.setIfInBounds_toArray, List.set_cons_zero, List.set_cons_succ]
            refine seqI_call 81 #[.slice (some ⟨wd.heap.size, 0, none⟩) 2 2] rfl (by go_simp) (orInt_any r1 r2 wd.heap.size _ (by simp) (by go_simp) (by go_simp)) ?_
            rintro e w7 ⟨rfl, hw7⟩
            subst hw7
            refine ⟨_, rfl, ext_alloc HS0.out, ?_⟩
            simp only [Act.put, List.setIfInBounds_toArray, List.set_cons_zero, List.set_cons_succ]
            have HXE : Hid (Below w.heap.size w (wd.alloc (.cells #[.int .i64 r1, .int .i64 r2] 3))) := HX5.out.trans ((ext_alloc (Below.refl _ _)).mono HX5.out.size)
            generalize wd.alloc (.cells #[.int .i64 r1, .int .i64 r2] 3) = we at HXE ⊢
            generalize firstE r1 r2 = z at HER4 ⊢
            by_cases hz : 0 ≤ z
            · obtain rfl : X = 7 := by rw [HER4.out, if_pos hz]
              obtain rfl : R = 7 := HSTOP.out (by decide)
              refine seqI_take (v := .bool true) rfl (fun W hW => by go_simp) (fun _ _ _ h => h) ?_
              simp only [Act.put, List.setIfInBounds_toArray, List.set_cons_zero, List.set_cons_succ]
              refine seqI_take (v := .bool true) rfl (fun W hW => by go_simp) (fun _ _ _ h => h) ?_
              simp only [Act.put, List.setIfInBounds_toArray, List.set_cons_zero, List.set_cons_succ]
              refine seqI_take (v := .bool true) rfl (fun W hW => by go_simp) (fun _ _ _ h => h) ?_
              simp only [Act.put, List.setIfInBounds_toArray, List.set_cons_zero, List.set_cons_succ]
              refine seqI_nil ?_
              clear HER4 HNX HSTOP w1 w2 w3' w4
              as_aux_lemma =>
                go_wp2_with fail
                go_ret
                exact ⟨rfl, HXE.out⟩
            have HZ2 := Lib.hid (HNX.out (by rw [HER4.out, if_neg hz]))
            refine seqI_take (v := .bool false) rfl (fun W hW => by go_simp) (fun _ _ _ h => h) ?_
            simp only [Act.put, List.setIfInBounds_toArray, List.set_cons_zero, List.set_cons_succ]
            refine seqI_take (v := .bool false) rfl (fun W hW => by go_simp) (fun _ _ _ h => h) ?_
            simp only [Act.put, List.setIfInBounds_toArray, List.set_cons_zero, List.set_cons_succ]
            refine seqI_take (v := .bool false) rfl (fun W hW => by go_simp) (fun _ _ _ h => h) ?_
            simp only [Act.put, List.setIfInBounds_toArray, List.set_cons_zero, List.set_cons_succ]
            refine seqI_nil ?_
            clear HER4 HNX HSTOP w1 w2 w3' w4
            as_aux_lemma =>
              go_wp2_with fail
              go_roundw
              case rel => exact ⟨j + 1 + 1, by omega, by go_num, HZ2.out, HXE.out⟩
              case measure => simp [intOf]; omega
end Go.Proofs.YtppinnjdaoaddaaGreatDoor

set_option linter.unusedVariables false
set_option linter.unusedSimpArgs false
namespace Go.Proofs.YtppinnjdaoaddaaGreatDoor
open Go.RowKit

set_option maxRecDepth 100000 in
set_option maxHeartbeats 4000000 in
theorem checkSnt_any (w : World) (a : Option Addr) (n cap : Nat) (l : List Carr) (hl : CarrRow w a n l) (hcap : n ≤ cap) (a1 : Option Addr) (n1 cap1 : Nat) (f : List Flt) (hf : FltRow w a1 n1 f) (hcap1 : n1 ≤ cap1) (a2 : Option Addr) (m cap2 : Nat) (rs : List Rcd) (hs : RcdRow w a2 m rs) (hcap2 : m ≤ cap2) : Calls Tryz.prog 86 #[.slice a n cap, .slice a1 n1 cap1, .slice a2 m cap2] w (ErrPost (chkSE l f rs) w) := by
  have hlen := hs.len
  have hfew := hs.few
  have HC := Lib.hid (snds_cases rs (by omega))
  have HSR := Lib.hid hs
  have HX : Hid (chkSE l f rs = if chkFE l f ≠ 0 then chkFE l f else sndsErr rs) := rfl
  have HCR := Lib.hid hl
  have HFR := Lib.hid hf
  clear hl hf
  generalize chkSE l f rs = Z at HX ⊢
  clear hs
  generalize sndsErr rs = R at HC HX ⊢
  rw [← hlen] at HC
  have HLEN := Lib.hid hlen
  clear hlen
  have hbig : ¬ (3000 : Int) < m := by omega
  go_enter Tryz.func86, Tryz.ntmps86
  go_wp2_with fail
  refine (checkFlt_any w a n cap l HCR.out hcap a1 n1 cap1 f HFR.out hcap1).mono ?_
  rintro e w0 ⟨rfl, hb0⟩
  have HB0 := Lib.hid hb0
  clear hb0 HCR HFR
  generalize chkFE l f = C at HX ⊢
  by_cases hC : C = 0
  case neg =>
    have hCb : (C != 0) = true := by simp [hC]
    obtain rfl : Z = C := by rw [HX.out, if_pos hC]
    clear HX HC
    as_aux_lemma =>
      go_wp2_with fail
      go_ret
      exact ⟨rfl, HB0.out⟩
  subst hC
  obtain rfl : R = Z := by rw [HX.out, if_neg (by simp)]
  clear HX
  as_aux_lemma =>
    go_wp2_with fail
    clear hbig
    go_loopw [21] (fun it wr => ∃ k : Nat, k ≤ m ∧ it = .int .i64 k ∧ Hid (∀ j, j < k → sndErr rs j = 0) ∧ Hid (Below w.heap.size w wr)) (fun it _ => m - (intOf it).toNat)
    case atStart => exact ⟨0, Nat.zero_le _, rfl, fun j hj => by omega, HB0.out⟩
    case round =>
      obtain ⟨k, hk, rfl, HZ, HB⟩ := hrel
      by_cases hlt : k < m
      case neg =>
        obtain rfl : k = m := by omega
        obtain rfl : R = 0 := HC.out.2 HZ.out
        clear HC HZ
        as_aux_lemma =>
          go_wp2_with fail
          go_ret
          exact ⟨rfl, HB.out⟩
      obtain ⟨b, off, rfl, hb, hc⟩ := HSR.out.at (by omega)
      have HCC := Lib.hid hc
      obtain ⟨q0, q1, q2, q3, q4, q5, q6, q7⟩ := hc k hlt
      have c0 := (HB.out.cell (p := ⟨b, off + k * 8, none⟩) hb).trans q0
      have c1 := (HB.out.cell (p := ⟨b, off + k * 8 + 1, none⟩) hb).trans q1
      have c2 := (HB.out.cell (p := ⟨b, off + k * 8 + 2, none⟩) hb).trans q2
      have c3 := (HB.out.cell (p := ⟨b, off + k * 8 + 3, none⟩) hb).trans q3
      have c4 := (HB.out.cell (p := ⟨b, off + k * 8 + 4, none⟩) hb).trans q4
      have c5 := (HB.out.cell (p := ⟨b, off + k * 8 + 5, none⟩) hb).trans q5
      have c6 := (HB.out.cell (p := ⟨b, off + k * 8 + 6, none⟩) hb).trans q6
      have c7 := (HB.out.cell (p := ⟨b, off + k * 8 + 7, none⟩) hb).trans q7
      obtain ⟨h0, h1, h2, h3, h4, h5, h6, h7⟩ := HSR.out.each k (by rw [← HLEN.out]; exact hlt)
      have HER : Hid (sndErr rs k = if isKeyB (rs.getD k noRcd).id = false then 5
        else if isNumB (rs.getD k noRcd).to_ = false then 3
        else if isMomB (rs.getD k noRcd).at_ = false ∨ inB (rs.getD k noRcd).ring 0 86400000 = false ∨ inB (rs.getD k noRcd).talk 0 86400000 = false then 1
        else if 0 < k ∧ (rs.getD k noRcd).at_ < (rs.getD (k - 1) noRcd).at_ then 7
        else 0) := rfl
      have HSTOP := Lib.hid (HC.out.1 k hlt HZ.out)
      have HNX : Hid (sndErr rs k = 0 → ∀ j, j < k + 1 → sndErr rs j = 0) := fun h j hj => by
        rcases Nat.lt_succ_iff_lt_or_eq.1 hj with h9 | rfl
        · exact HZ.out j h9
        · exact h
      have HPV : Hid (0 < k → w.cell? ⟨b, off + (k - 1) * 8 + 3, none⟩ = some (.int .i64 (rs.getD (k - 1) noRcd).at_)) := fun h => (HCC.out (k - 1) (by omega)).2.2.2.1
      clear q0 q1 q2 q3 q4 q5 q6 q7 hc HZ HC HCC
      generalize sndErr rs k = X at HER HSTOP HNX
      generalize rs.getD k noRcd = c at c0 c1 c2 c3 c4 c5 c6 c7 h0 h1 h2 h3 h4 h5 h6 h7 HER
      generalize (rs.getD (k - 1) noRcd).at_ = pa at HER HPV
      obtain ⟨ri, rf, rt, ra, rr, rk, rh, rc⟩ := c
      simp only at c0 c1 c2 c3 c4 c5 c6 c7 h0 h1 h2 h3 h4 h5 h6 h7 HER
      have HX : Hid (Blk (wr.alloc (.cells #[.string ⟨ri.toArray⟩, .string ⟨rf.toArray⟩, .string ⟨rt.toArray⟩, .int .i64 ra, .int .i64 rr, .int .i64 rk, .int .i64 rh, .string ⟨rc.toArray⟩] 83)) wr.heap.size [.string ⟨ri.toArray⟩, .string ⟨rf.toArray⟩, .string ⟨rt.toArray⟩, .int .i64 ra, .int .i64 rr, .int .i64 rk, .int .i64 rh, .string ⟨rc.toArray⟩] 83) := Blk.new wr [.string ⟨ri.toArray⟩, .string ⟨rf.toArray⟩, .string ⟨rt.toArray⟩, .int .i64 ra, .int .i64 rr, .int .i64 rk, .int .i64 rh, .string ⟨rc.toArray⟩] 83
      have HBA : Hid (Below w.heap.size w (wr.alloc (.cells #[.string ⟨ri.toArray⟩, .string ⟨rf.toArray⟩, .string ⟨rt.toArray⟩, .int .i64 ra, .int .i64 rr, .int .i64 rk, .int .i64 rh, .string ⟨rc.toArray⟩] 83))) := ext_alloc HB.out
      clear HB
      as_aux_lemma =>
        go_upto_region 9 with (fail)
        generalize wr.alloc (.cells #[.string ⟨ri.toArray⟩, .string ⟨rf.toArray⟩, .string ⟨rt.toArray⟩, .int .i64 ra, .int .i64 rr, .int .i64 rk, .int .i64 rh, .string ⟨rc.toArray⟩] 83) = W1 at HX HBA ⊢
        generalize wr.heap.size = T at HX ⊢
        have x0 := HX.out.cell 0 rfl
        as_aux_lemma =>
          go_wp2_with fail
          refine (isKey_any ri _ (by omega)).mono ?_
          rintro e w3 ⟨rfl, hb3⟩
          have HX3 := Lib.hid (HX.out.below hb3)
          have HB3 := Lib.hid (ext_trans HBA.out hb3)
          clear hb3 HX HBA x0
          generalize isKeyB ri = g1 at HER ⊢
          cases g1
          · obtain rfl : X = 5 := by rw [HER.out, if_pos rfl]
            obtain rfl : R = 5 := HSTOP.out (by decide)
            clear HER HSTOP HNX HPV HX3
            skip
            as_aux_lemma =>
              go_wp2_with fail
              go_ret
              exact ⟨rfl, HB3.out⟩
          have HER1 : Hid (X = if isNumB rt = false then 3
            else if isMomB ra = false ∨ inB rr 0 86400000 = false ∨ inB rk 0 86400000 = false then 1
            else if 0 < k ∧ ra < pa then 7
            else 0) := by show _ = _; rw [HER.out, if_neg (by decide)]
          clear HER
          have x2 := HX3.out.cell 2 rfl
          skip
          as_aux_lemma =>
            go_wp2_with fail
            refine (isNumber_l rt _ (by omega)).mono ?_
            rintro e w4 ⟨rfl, hb4⟩
            have HX4 := Lib.hid (HX3.out.below hb4)
            have HB4 := Lib.hid (ext_trans HB3.out hb4)
            clear hb4 HX3 HB3 x2
            generalize isNumB rt = g2 at HER1 ⊢
            cases g2
            · obtain rfl : X = 3 := by rw [HER1.out, if_pos rfl]
              obtain rfl : R = 3 := HSTOP.out (by decide)
              clear HER1 HSTOP HNX HPV HX4
              skip
              as_aux_lemma =>
                go_wp2_with fail
                go_ret
                exact ⟨rfl, HB4.out⟩
            have HER2 : Hid (X = if isMomB ra = false ∨ inB rr 0 86400000 = false ∨ inB rk 0 86400000 = false then 1
              else if 0 < k ∧ ra < pa then 7
              else 0) := by show _ = _; rw [HER1.out, if_neg (by decide)]
            clear HER1
            have x3 := HX4.out.cell 3 rfl
            have x4 := HX4.out.cell 4 rfl
            have x5 := HX4.out.cell 5 rfl
            clear HX4
            skip
            as_aux_lemma =>
              go_wp2_with fail
              refine (isMoment_any ra _).mono ?_
              rintro e w9 ⟨rfl, rfl⟩
              generalize isMomB ra = g3 at HER2 ⊢
              cases g3
              · obtain rfl : X = 1 := by rw [HER2.out, if_pos (Or.inl rfl)]
                obtain rfl : R = 1 := HSTOP.out (by decide)
                clear HER2 HSTOP HNX HPV
                skip
                as_aux_lemma =>
                  go_wp2_with fail
                  go_ret
                  exact ⟨rfl, HB4.out⟩
              skip
              as_aux_lemma =>
                go_wp2_with fail
                refine (within_c rr 0 86400000 _).mono ?_
                rintro e w9 ⟨rfl, rfl⟩
                generalize inB rr 0 86400000 = g4 at HER2 ⊢
                cases g4
                · obtain rfl : X = 1 := by rw [HER2.out, if_pos (Or.inr (Or.inl rfl))]
                  obtain rfl : R = 1 := HSTOP.out (by decide)
                  clear HER2 HSTOP HNX HPV
                  skip
                  as_aux_lemma =>
                    go_wp2_with fail
                    go_ret
                    exact ⟨rfl, HB4.out⟩
                skip
                as_aux_lemma =>
                  go_wp2_with fail
                  refine (within_c rk 0 86400000 _).mono ?_
                  rintro e w9 ⟨rfl, rfl⟩
                  generalize inB rk 0 86400000 = g5 at HER2 ⊢
                  cases g5
                  · obtain rfl : X = 1 := by rw [HER2.out, if_pos (Or.inr (Or.inr rfl))]
                    obtain rfl : R = 1 := HSTOP.out (by decide)
                    clear HER2 HSTOP HNX HPV
                    skip
                    as_aux_lemma =>
                      go_wp2_with fail
                      go_ret
                      exact ⟨rfl, HB4.out⟩
                  have HER3 : Hid (X = if 0 < k ∧ ra < pa then 7
                    else 0) := by show _ = _; rw [HER2.out, if_neg (by decide)]
                  clear HER2
                  by_cases hk0 : k = 0
                  · subst hk0
                    have HZ2 := Lib.hid (HNX.out (by rw [HER3.out, if_neg (fun h => by omega)]))
                    clear HER3 HSTOP HNX HPV
                    skip
                    as_aux_lemma =>
                      go_wp2_with fail
                      go_quiet (fail)
                      go_wp2_with fail
                      go_roundw
                      case rel => exact ⟨0 + 1, by omega, by go_num, HZ2.out, ext_drewN HB4.out⟩
                      case measure => simp [intOf]; omega
                  obtain ⟨j, rfl⟩ : ∃ j, k = j + 1 := ⟨k - 1, by omega⟩
                  have p0 := HPV.out (by omega)
                  rw [Nat.add_sub_cancel] at p0
                  have w1 : IntKind.i64.wrap (j : Int) = j := IntWalk.i64_in _ (by omega)
                  have w2 : IntKind.i64.wrap ((j : Int) + 1 - 1) = j := by rw [Int.add_sub_cancel]; exact w1
                  have w3' : (j : Int) < m := by omega
                  have w4' : (0 : Int) ≤ (j : Int) := by omega
                  have g0 := (HB4.out.cell (p := ⟨b, off + j * 8 + 3, none⟩) hb).trans p0
                  clear HPV p0 hk0
                  by_cases hls : ra < pa
                  · obtain rfl : X = 7 := by rw [HER3.out, if_pos ⟨by omega, hls⟩]
                    obtain rfl : R = 7 := HSTOP.out (by decide)
                    clear HER3 HSTOP HNX
                    skip
                    as_aux_lemma =>
                      go_wp2_with fail
                      go_quiet (fail)
                      go_wp2_with fail
                      go_ret
                      exact ⟨rfl, ext_drewN HB4.out⟩
                  have HZ2 := Lib.hid (HNX.out (by rw [HER3.out, if_neg (fun h => hls h.2)]))
                  clear HER3 HSTOP HNX
                  skip
                  as_aux_lemma =>
                    go_wp2_with fail
                    go_quiet (fail)
                    go_wp2_with fail
                    go_roundw
                    case rel => exact ⟨j + 1 + 1, by omega, by go_num, HZ2.out, ext_drewN HB4.out⟩
                    case measure => simp [intOf]; omega
end Go.Proofs.YtppinnjdaoaddaaGreatDoor

set_option linter.unusedVariables false
set_option linter.unusedSimpArgs false
namespace Go.Proofs.YtppinnjdaoaddaaGreatDoor
open Go.RowKit Go.Sort Go.Lib

theorem chkSE_zero {l : List Carr} {f : List Flt} {rs : List Rcd} (hr : rs.length ≤ 3000) (h : chkSE l f rs = 0) : carrsErr l = 0 ∧ ∀ i, i < rs.length → sndErr rs i = 0 := by
  unfold chkSE at h
  split at h
  · rename_i h1; exact absurd h h1
  · rename_i h1
    have h2 : chkFE l f = 0 := Classical.not_not.1 h1
    refine ⟨?_, snds_zero hr h⟩
    unfold chkFE at h2
    split at h2
    · rename_i h3; exact absurd h2 h3
    · rename_i h3; exact Classical.not_not.1 h3
def SndPost (E : Int) (x : List Snt) (w : World) (e : Ending) (w' : World) : Prop := ∃ v, e = .returned (.tuple #[v, .int .i64 E]) ∧ w'.ownsRow w.heap.size 102 4 v (if E = 0 then x else []).length (((if E = 0 then x else []).map Snt.cells).flatten) ∧ Below w.heap.size w w'
def SvdPost (E : Int) (n : Int) (w : World) (e : Ending) (w' : World) : Prop := e = .returned (.tuple #[.int .i64 (if E = 0 then n else 0), .int .i64 E]) ∧ Below w.heap.size w w'
set_option maxRecDepth 100000 in
set_option maxHeartbeats 4000000 in
theorem sendX_any (w : World) (a : Option Addr) (n cap : Nat) (l : List Carr) (hl : CarrRow w a n l) (hcap : n ≤ cap) (hn3 : n ≤ 3) (a1 : Option Addr) (n1 cap1 : Nat) (f : List Flt) (hf : FltRow w a1 n1 f) (hcap1 : n1 ≤ cap1) (a2 : Option Addr) (m cap2 : Nat) (rs : List Rcd) (hs : RcdRow w a2 m rs) (hcap2 : m ≤ cap2) (hm : m ≤ 20) :
    Calls Tryz.prog 44 #[.slice a n cap, .slice a1 n1 cap1, .slice a2 m cap2] w (SndPost (chkSE l f rs) (sendTo l f rs m).out w) := by
  have HCK := Lib.hid (checkSnt_any w a n cap l hl hcap a1 n1 cap1 f hf hcap1 a2 m cap2 rs hs hcap2)
  have hrl : rs.length ≤ 3000 := by rw [← hs.len]; omega
  have HSE : Hid (chkSE l f rs = 0 → ∀ W, Below w.heap.size w W → Calls Tryz.prog 87 #[.slice a n cap, .slice a1 n1 cap1, .slice a2 m cap2] W (SendPost (sendTo l f rs m).out (sendTo l f rs m).saved W)) := fun h0 W hW => by
    obtain ⟨h1, h2⟩ := chkSE_zero hrl h0
    exact send_any W a n cap l (hl.below hW) hcap hn3 h1 a1 n1 cap1 f (hf.below hW) a2 m cap2 rs (hs.below hW) hm h2
  clear hl hf hs hrl
  generalize (sendTo l f rs m).out = X at HSE ⊢
  generalize (sendTo l f rs m).saved = N at HSE ⊢
  generalize chkSE l f rs = E at HCK HSE ⊢
  go_enter Tryz.func44, Tryz.ntmps44
  go_wp2_with fail
  refine HCK.out.mono ?_
  rintro e w1 ⟨rfl, hb1⟩
  have HB1 := Lib.hid hb1
  clear hb1 HCK
  by_cases hE : E = 0
  · subst hE
    have HSE2 := Lib.hid (HSE.out rfl _ HB1.out)
    clear HSE
    as_aux_lemma =>
      go_wp2_with fail
      refine HSE2.out.mono ?_
      rintro e w2 ⟨v, rfl, ho, hb2⟩
      have HO := Lib.hid (own_le ho HB1.out.size)
      have HB2 := Lib.hid (ext_trans HB1.out hb2)
      clear ho hb2 HSE2
      as_aux_lemma =>
        go_wp2_with fail
        go_ret2
        exact ⟨_, rfl, by rw [if_pos rfl]; exact HO.out, HB2.out⟩
  · have hEb : (E != 0) = true := by simp [hE]
    clear HSE
    as_aux_lemma =>
      go_wp2_with fail
      go_ret2
      exact ⟨_, rfl, by rw [if_neg hE]; exact World.ownsRow_nil _ _ _ _, HB1.out⟩
set_option maxRecDepth 100000 in
set_option maxHeartbeats 4000000 in
theorem savedX_any (w : World) (a : Option Addr) (n cap : Nat) (l : List Carr) (hl : CarrRow w a n l) (hcap : n ≤ cap) (hn3 : n ≤ 3) (a1 : Option Addr) (n1 cap1 : Nat) (f : List Flt) (hf : FltRow w a1 n1 f) (hcap1 : n1 ≤ cap1) (a2 : Option Addr) (m cap2 : Nat) (rs : List Rcd) (hs : RcdRow w a2 m rs) (hcap2 : m ≤ cap2) (hm : m ≤ 20) :
    Calls Tryz.prog 45 #[.slice a n cap, .slice a1 n1 cap1, .slice a2 m cap2] w (SvdPost (chkSE l f rs) (sendTo l f rs m).saved w) := by
  have HCK := Lib.hid (checkSnt_any w a n cap l hl hcap a1 n1 cap1 f hf hcap1 a2 m cap2 rs hs hcap2)
  have hrl : rs.length ≤ 3000 := by rw [← hs.len]; omega
  have HSE : Hid (chkSE l f rs = 0 → ∀ W, Below w.heap.size w W → Calls Tryz.prog 87 #[.slice a n cap, .slice a1 n1 cap1, .slice a2 m cap2] W (SendPost (sendTo l f rs m).out (sendTo l f rs m).saved W)) := fun h0 W hW => by
    obtain ⟨h1, h2⟩ := chkSE_zero hrl h0
    exact send_any W a n cap l (hl.below hW) hcap hn3 h1 a1 n1 cap1 f (hf.below hW) a2 m cap2 rs (hs.below hW) hm h2
  clear hl hf hs hrl
  generalize (sendTo l f rs m).out = X at HSE ⊢
  generalize (sendTo l f rs m).saved = N at HSE ⊢
  generalize chkSE l f rs = E at HCK HSE ⊢
  go_enter Tryz.func45, Tryz.ntmps45
  go_wp2_with fail
  refine HCK.out.mono ?_
  rintro e w1 ⟨rfl, hb1⟩
  have HB1 := Lib.hid hb1
  clear hb1 HCK
  by_cases hE : E = 0
  · subst hE
    have HSE2 := Lib.hid (HSE.out rfl _ HB1.out)
    clear HSE
    as_aux_lemma =>
      go_wp2_with fail
      refine HSE2.out.mono ?_
      rintro e w2 ⟨v, rfl, ho, hb2⟩
      have HB2 := Lib.hid (ext_trans HB1.out hb2)
      clear ho hb2 HSE2
      as_aux_lemma =>
        go_wp2_with fail
        go_ret2
        exact ⟨by rw [if_pos rfl]; rfl, HB2.out⟩
  · have hEb : (E != 0) = true := by simp [hE]
    clear HSE
    as_aux_lemma =>
      go_wp2_with fail
      go_ret2
      exact ⟨by rw [if_neg hE]; rfl, HB1.out⟩
end Go.Proofs.YtppinnjdaoaddaaGreatDoor

set_option linter.unusedVariables false
set_option linter.unusedSimpArgs false
namespace Go.Proofs.YtppinnjdaoaddaaGreatDoor
open Go.RowKit Go.Sort Go.Lib

def eqO (x y : Off) : Bool := x.c == y.c && x.price == y.price
theorem neqO : NeqAt Tryz.prog 80 (fun x : Off => .agg (Off.cells x).toArray) eqO := by
  refine ⟨fun x y w => ?_, GuardAt.agg _ (by kernel_rfl)⟩
  obtain ⟨c, n1⟩ := x
  obtain ⟨c', m1⟩ := y
  show (binOp .neq 80 (.agg #[.string ⟨c.toArray⟩, .int .i64 n1]) (.agg #[.string ⟨c'.toArray⟩, .int .i64 m1])).run Tryz.prog w = _
  go_simp
  unfold eqO
  by_cases h1 : c = c' <;> by_cases h2 : n1 = m1 <;> simp [*]
theorem allEqO_self : ∀ (l : List Off), Lib.allEq eqO l l = true
  | [] => rfl
  | x :: l => by
    show (eqO x x && Lib.allEq eqO l l) = true
    rw [show eqO x x = true by simp [eqO], allEqO_self l]; rfl
theorem equalO_none (w : World) (a a2 : Option Addr) (c c2 : Nat) : Calls Tryz.prog 36 #[.slice a 0 c, .slice a2 0 c2] w fun e w' => e = .returned (.bool true) ∧ Below w.heap.size w w' := by
  go_enter Tryz.func36, Tryz.ntmps36
  go_wp2_with fail
  go_loopw [13] (fun i wr => i = .int .i64 0 ∧ Hid (Below w.heap.size w wr)) (fun _ _ => 0)
  case atStart => exact ⟨rfl, (by (try show Below _ _ _); repeat (with_reducible first | exact Below.refl _ _ | assumption | exact Hid.out (by assumption) | refine ext_alloc ?_ | refine ext_drewN ?_ | refine ext_drew ?_ | refine ext_setCell ?_ (Nat.le_refl _) | refine ext_setCell ?_ (Nat.le_succ _) | refine ext_trans ?_ (by assumption) | (refine ext_setCell ?_ (by simp)) | (refine ext_setCell ?_ (by simp at *; omega))))⟩
  case round =>
    obtain ⟨rfl, HB⟩ := hrel
    go_wp2_with fail
    go_ret
    exact ⟨rfl, (by (try show Below _ _ _); repeat (with_reducible first | exact Below.refl _ _ | assumption | exact Hid.out (by assumption) | refine ext_alloc ?_ | refine ext_drewN ?_ | refine ext_drew ?_ | refine ext_setCell ?_ (Nat.le_refl _) | refine ext_setCell ?_ (Nat.le_succ _) | refine ext_trans ?_ (by assumption) | (refine ext_setCell ?_ (by simp)) | (refine ext_setCell ?_ (by simp at *; omega))))⟩
theorem bang_getDO {l : List Off} {j : Nat} (h : j < l.length) : l[j]! = l.getD j noOff := by
  simp [List.getD_eq_getElem?_getD, h]
theorem equal_offers {w : World} {base base2 : Nat} {v v2 : Value} {xs ys : List Off} (h : OffRow w base v xs) (h2 : OffRow w base2 v2 ys) (he : xs = ys) (hn : xs.length ≤ 100000) :
    Calls Tryz.prog 36 #[v, v2] w fun e w' => e = .returned (.bool true) ∧ Below w.heap.size w w' := by
  subst he
  unfold OffRow at h h2
  by_cases h0 : xs.length = 0
  · obtain ⟨a, c, rfl⟩ := own_shape h
    obtain ⟨a2, c2, rfl⟩ := own_shape h2
    rw [h0]
    exact equalO_none w a a2 c c2
  · obtain ⟨a, c, rfl⟩ := own_shape h
    obtain ⟨a2, c2, rfl⟩ := own_shape h2
    obtain ⟨g, rfl, -, -⟩ := own_pos h (by omega)
    obtain ⟨g2, rfl, -, -⟩ := own_pos h2 (by omega)
    refine (Tryz.slices_eqO Off.cells (fun _ => rfl) eqO neqO g 0 xs.length c g2 0 xs.length c2 xs xs w (Nat.le_refl _) (Nat.le_refl _) (by omega) (by omega) (fun j hj i v hv => ?_) (fun j hj i v hv => ?_)).mono ?_
    · rw [bang_getDO hj] at hv
      rw [Nat.zero_add]
      exact own_field Off.cells (fun _ => rfl) h j i noOff hj (by have := (List.getElem?_eq_some_iff.1 hv).1; exact this) hv
    · rw [bang_getDO hj] at hv
      rw [Nat.zero_add]
      exact own_field Off.cells (fun _ => rfl) h2 j i noOff hj (by have := (List.getElem?_eq_some_iff.1 hv).1; exact this) hv
    · rintro e w' ⟨rfl, q, rfl⟩
      rw [List.take_length, allEqO_self]
      exact ⟨rfl, ext_drewN (Below.refl _ _)⟩
/-- Keys of the first carriers ascend. -/
theorem keys_less {l : List Carr} (hl : l.length ≤ 50) (h : carrsErr l = 0) : ∀ (i d : Nat), i + (d + 1) < l.length → Op.bytesLess (l.getD i noCarr).key (l.getD (i + (d + 1)) noCarr).key = true := by
  have z1 : ∀ j, j < l.length → carrErr l j = 0 := first_zero (by unfold carrsErr at h; rw [if_neg (by omega)] at h; exact h)
  have step : ∀ j, j + 1 < l.length → Op.bytesLess (l.getD j noCarr).key (l.getD (j + 1) noCarr).key = true := fun j hj => by
    have z2 := z1 (j + 1) hj
    unfold carrErr at z2
    split at z2
    · cases z2
    · split at z2
      · cases z2
      · rename_i h2
        cases h4 : Op.bytesLess (l.getD j noCarr).key (l.getD (j + 1) noCarr).key with
        | true => rfl
        | false => exact absurd ⟨by omega, h4⟩ h2
  intro i d
  induction d with
  | zero => exact fun hi => step i hi
  | succ d ih => exact fun hi => less_trans (ih (by omega)) (step (i + (d + 1)) hi)
/-- Offers stand in the order of their carriers. -/
theorem offTo_keys {l : List Carr} (s : List UInt8) (t : Int) : ∀ k, k ≤ l.length → ∀ x ∈ offTo l s t k, ∃ i, i < k ∧ x.c = (l.getD i noCarr).key
  | 0, _, x, h => by cases h
  | k + 1, hk, x, h => by
    unfold offTo at h
    rcases List.mem_append.1 h with h | h
    · obtain ⟨i, h1, h2⟩ := offTo_keys s t k (by omega) x h
      exact ⟨i, by omega, h2⟩
    · split at h
      · rw [List.mem_singleton.1 h]; exact ⟨k, by omega, rfl⟩
      · cases h
theorem offTo_asc {l : List Carr} (hl : l.length ≤ 50) (h : carrsErr l = 0) (s : List UInt8) (t : Int) : ∀ k, k ≤ l.length → (offTo l s t k).Pairwise fun x y => Op.bytesLess x.c y.c = true
  | 0, _ => List.Pairwise.nil
  | k + 1, hk => by
    have ih := offTo_asc hl h s t k (by omega)
    unfold offTo
    split
    · rw [List.pairwise_append]
      refine ⟨ih, List.pairwise_singleton _ _, fun x hx y hy => ?_⟩
      obtain ⟨i, h1, h2⟩ := offTo_keys s t k (by omega) x hx
      rw [List.mem_singleton.1 hy, h2]
      have := keys_less hl h i (k - i - 1) (by omega)
      rwa [show i + (k - i - 1 + 1) = k by omega] at this
    · simpa using ih
theorem sort_same {l : List Carr} (hl : l.length ≤ 50) (h : carrsErr l = 0) (s : List UInt8) (t : Int) (k : Nat) (hk : k ≤ l.length) (h3 : k ≤ 3) : insL (ltOf cfP) (offTo l s t k) = insL (ltOf cfPC) (offTo l s t k) := by
  have hp := offTo_asc hl h s t k hk
  have hlen := offTo_len l s t k
  generalize offTo l s t k = xs at hp hlen ⊢
  refine insL_same _ _ xs (by omega) (fun i j hij hj => ?_)
  have h1 := List.pairwise_iff_getElem.1 hp i j (by omega) hj hij
  have e1 : xs.getD i default = xs[i] := by rw [List.getD_eq_getElem?_getD, List.getElem?_eq_getElem (show i < xs.length by omega)]; rfl
  have e2 : xs.getD j default = xs[j] := by rw [List.getD_eq_getElem?_getD, List.getElem?_eq_getElem hj]; rfl
  rw [e1, e2]
  generalize xs[i] = x at h1
  generalize xs[j] = y at h1
  unfold ltOf cfP cfPC firstE
  by_cases hc : Lib.compareInt y.price x.price = 0
  · rw [if_neg (by simp [hc]), hc]
    have : ¬ Lib.compareBytes y.c x.c < 0 := fun h9 => by
      rw [cmp_neg] at h9
      have := less_trans h1 h9
      rw [less_irrefl] at this; cases this
    simp [this]
  · rw [if_pos hc]
end Go.Proofs.YtppinnjdaoaddaaGreatDoor

set_option linter.unusedVariables false
set_option linter.unusedSimpArgs false
namespace Go.Proofs.YtppinnjdaoaddaaGreatDoor
open Go.RowKit Go.Sort Go.Lib

theorem bl_ofr0 (e : Operand → Value) (he : ∀ v, e (.const v) = v) (o : Oper) (w : World) (i0 : Nat) (p0_0 : ByteArray) (z0_1 : Int) (ho : o.op = .buildSlice 74 1 #[(0, .tmp i0)]) (h0 : e (.tmp i0) = .agg #[.string p0_0, .int .i64 z0_1]) :
   (execOp e o).run Tryz.prog w = .ok (.value (.slice (some ⟨w.heap.size, 0, none⟩) 1 1)) (w.alloc (.cells #[.string p0_0, .int .i64 z0_1] 80)) := by
  unfold execOp
  rw [ho]
  simp only [List.map_toArray, List.map_cons, List.map_nil, h0]
  kernel_rfl
set_option maxRecDepth 100000 in
set_option maxHeartbeats 8000000 in
theorem offersFor_any (w : World) (a : Option Addr) (n cap : Nat) (l : List Carr) (hl : CarrRow w a n l) (hn3 : n ≤ 3) (nm : List UInt8) (h1 : 1 ≤ nm.length) (h16 : nm.length ≤ 16) (t : Int) (hg : GoodAt l t) : Calls Tryz.prog 37 #[.slice a n cap, .string ⟨nm.toArray⟩, .int .i64 t] w (OfsPost (insL (ltOf cfPC) (offTo l (nm.drop 1) t n)) w) := by
  obtain ⟨i1, hi1, hy0, hy1, hy2⟩ := info_parts Tryz.infoOff
  have HR := Lib.hid hl
  have HG := Lib.hid hg
  have HLEN := Lib.hid hl.len
  clear hl hg
  go_enter Tryz.func37, Tryz.ntmps37
  go_wp2_with fail
  go_loopw [7, 16] (fun vo it wr => ∃ k : Nat, k ≤ n ∧ it = .int .i64 k ∧ Hid (OffRow wr w.heap.size vo (offTo l (nm.drop 1) t k)) ∧ Hid (Below w.heap.size w wr)) (fun _ it _ => n - (intOf it).toNat)
  case atStart => exact ⟨0, Nat.zero_le _, rfl, World.ownsRow_nil _ _ _ _, Below.refl _ _⟩
  case round =>
    obtain ⟨k, hk, rfl, HO, HB⟩ := hrel
    by_cases hlt : k < n
    case neg =>
      obtain rfl : k = n := by omega
      have hge : ¬ (k : Int) < (k : Int) := by omega
      have hol := offTo_len l (nm.drop 1) t k
      obtain ⟨vo, rfl⟩ : ∃ x : Value, x = u7 := ⟨_, rfl⟩
      as_aux_lemma =>
        go_wp2_with fail
        refine (sortFO_any _ w.heap.size vo _ HO.out (by omega)).mono ?_
        rintro e w5 ⟨rfl, ho, hb⟩
        have HO5 := Lib.hid ho
        have HB5 := Lib.hid (HB.out.trans hb)
        clear ho hb
        go_wp2_with fail
        go_ret
        exact ⟨_, rfl, HO5.out, HB5.out⟩
    have hlti : (k : Int) < (n : Int) := by omega
    obtain ⟨b, off, rfl, hb, hc⟩ := (HR.out.below HB.out).at (by omega)
    obtain ⟨c0, c1, c2⟩ := hc k hlt
    have HCF : Hid (CarrFine wr (l.getD k noCarr)) := (HR.out.below HB.out).each k (by rw [← HLEN.out]; exact hlt)
    have HGK : Hid (∀ d, deckV (l.getD k noCarr).decks t = some d → DeckGood d.setup d.least d.step d.rates) := HG.out k (by rw [← HLEN.out]; exact hlt)
    have HE : Hid (offTo l (nm.drop 1) t (k + 1) = offTo l (nm.drop 1) t k ++ (if (costV (l.getD k noCarr).decks (nm.drop 1) t 60000).2 = true then [⟨(l.getD k noCarr).key, (costV (l.getD k noCarr).decks (nm.drop 1) t 60000).1⟩] else [])) := rfl
    have hol := offTo_len l (nm.drop 1) t k
    clear hc
    generalize l.getD k noCarr = cx at c0 c1 c2 HCF HE HGK
    obtain ⟨ky, ln, da, dn, dc, dk⟩ := cx
    simp only at c0 c1 c2 HE HGK
    generalize hos : offTo l (nm.drop 1) t k = os at HO HE hol
    clear hos
    have HDK : Hid (∀ W, Below wr.heap.size wr W → Calls Tryz.prog 32 #[.agg #[.string ⟨ky.toArray⟩, .int .i64 ln, .slice da dn dc], .int .i64 t] W (DeckAns (deckV dk t) W)) := fun W hW => deckOf_any W ky ln da dn dc dk (HCF.out.below hW).row HCF.out.cap t
    have HRF : Hid (∀ W, Below wr.heap.size wr W → RateRow W ((deckV dk t).getD noDeck).ra ((deckV dk t).getD noDeck).rn ((deckV dk t).getD noDeck).rates) := fun W hW => deckV_fineR (HCF.out.below hW).row t
    have HC : Hid (costV dk (nm.drop 1) t 60000 = match deckV dk t with | none => (0, false) | some d => priceV d.setup d.least d.step d.rates (nm.drop 1) 60000) := rfl
    generalize costV dk (nm.drop 1) t 60000 = V at HE HC
    generalize deckV dk t = od at HDK HRF HC HGK
    clear HCF
    as_aux_lemma =>
      go_upto_region 5 with (fail)
      have HX : Hid (Blk (wr.alloc (.cells #[.string ⟨ky.toArray⟩, .int .i64 ln, .slice da dn dc] 72)) wr.heap.size [.string ⟨ky.toArray⟩, .int .i64 ln, .slice da dn dc] 72) := Blk.new wr [.string ⟨ky.toArray⟩, .int .i64 ln, .slice da dn dc] 72
      have hA : Below wr.heap.size wr (wr.alloc (.cells #[.string ⟨ky.toArray⟩, .int .i64 ln, .slice da dn dc] 72)) := ext_alloc (Below.refl _ _)
      have HBA := Lib.hid (ext_trans HB.out hA)
      have HWA := Lib.hid hA
      have HOA : Hid (OffRow (wr.alloc (.cells #[.string ⟨ky.toArray⟩, .int .i64 ln, .slice da dn dc] 72)) w.heap.size u7 os) := World.ownsRow.alloc HO.out _
      have hX : wr.heap.size < ((wr.alloc (.cells #[.string ⟨ky.toArray⟩, .int .i64 ln, .slice da dn dc] 72))).heap.size := by simp
      clear hA HB HO
      generalize (wr.alloc (.cells #[.string ⟨ky.toArray⟩, .int .i64 ln, .slice da dn dc] 72)) = wa at HX HBA HWA HOA hX ⊢
      have x0 := HX.out.cell 0 rfl
      have x1 := HX.out.cell 1 rfl
      have x2 := HX.out.cell 2 rfl
      obtain ⟨vo, rfl⟩ : ∃ x : Value, x = u7 := ⟨_, rfl⟩
      go_wp2_with fail
      refine (HDK.out _ HWA.out).mono ?_
      rintro e w3 ⟨rfl, hb3⟩
      have HB3 := Lib.hid (ext_trans HBA.out hb3)
      have HW3 := Lib.hid (ext_trans HWA.out hb3)
      have HX3 := Lib.hid (HX.out.below hb3)
      have HO3 : Hid (OffRow w3 w.heap.size vo os) := own_keep HOA.out hb3
      have hX3 : wr.heap.size < w3.heap.size := HX3.out.lt
      clear hb3 HBA HWA HX HOA HDK x0 x1 x2 hX
      cases od with
      | none =>
        obtain rfl : V = (0, false) := HC.out
        have HE2 : Hid (offTo l (nm.drop 1) t (k + 1) = os) := by show _ = _; rw [HE.out, if_neg (by simp), List.append_nil]
        have HB4 : Hid (Below w.heap.size w (w3.alloc (.cells #[.int .i64 0, .int .i64 0, .int .i64 0, .int .i64 0, .slice none 0 0] 63))) := ext_alloc HB3.out
        have HO4 : Hid (OffRow (w3.alloc (.cells #[.int .i64 0, .int .i64 0, .int .i64 0, .int .i64 0, .slice none 0 0] 63)) w.heap.size vo os) := World.ownsRow.alloc HO3.out _
        clear HE HC HRF HGK
        as_aux_lemma =>
          go_wp2_with fail
          go_roundw
          case rel => exact ⟨k + 1, by omega, by go_num, by rw [HE2.out]; exact HO4.out, HB4.out⟩
          case measure => simp [intOf]; omega
      | some d =>
        have hgd := HGK.out d rfl
        have HR3 := Lib.hid (HRF.out _ HW3.out)
        obtain ⟨df, ds, dl, dp, ra, rn, rc, rates⟩ := d
        obtain rfl : V = priceV ds dl dp rates (nm.drop 1) 60000 := HC.out
        simp only [Option.getD_some, Option.isSome_some] at HR3 ⊢
        have HTX : Hid ((w3.alloc (.cells #[.int .i64 0, .int .i64 0, .int .i64 0, .int .i64 0, .slice none 0 0] 63)).there w3.heap.size 0 5) := (Blk.new w3 [.int .i64 0, .int .i64 0, .int .i64 0, .int .i64 0, .slice none 0 0] 63).th 5 (by decide)
        have HX4 : Hid (Blk (World.setCells (w3.alloc (.cells #[.int .i64 0, .int .i64 0, .int .i64 0, .int .i64 0, .slice none 0 0] 63)) w3.heap.size 0 [.int .i64 df, .int .i64 ds, .int .i64 dl, .int .i64 dp, .slice ra rn rc]) w3.heap.size [.int .i64 df, .int .i64 ds, .int .i64 dl, .int .i64 dp, .slice ra rn rc] 63) := ((((((Blk.new w3 [.int .i64 0, .int .i64 0, .int .i64 0, .int .i64 0, .slice none 0 0] 63).put 0 _).put 1 _).put 2 _).put 3 _).put 4 _)
        have hA : Below w3.heap.size w3 (World.setCells (w3.alloc (.cells #[.int .i64 0, .int .i64 0, .int .i64 0, .int .i64 0, .slice none 0 0] 63)) w3.heap.size 0 [.int .i64 df, .int .i64 ds, .int .i64 dl, .int .i64 dp, .slice ra rn rc]) := below5 (Nat.le_refl _) (ext_alloc (Below.refl _ _)) _
        have HB4 := Lib.hid (ext_trans HB3.out hA)
        have HC4 := Lib.hid (HX3.out.below hA)
        have HO4 : Hid (OffRow (World.setCells (w3.alloc (.cells #[.int .i64 0, .int .i64 0, .int .i64 0, .int .i64 0, .slice none 0 0] 63)) w3.heap.size 0 [.int .i64 df, .int .i64 ds, .int .i64 dl, .int .i64 dp, .slice ra rn rc]) w.heap.size vo os) := own_keep HO3.out hA
        have HR4 : Hid (RateRow (World.setCells (w3.alloc (.cells #[.int .i64 0, .int .i64 0, .int .i64 0, .int .i64 0, .slice none 0 0] 63)) w3.heap.size 0 [.int .i64 df, .int .i64 ds, .int .i64 dl, .int .i64 dp, .slice ra rn rc]) ra rn rates) := HR3.out.below hA
        clear hA HC HGK HRF HR3 HB3 HX3 HO3 HW3
        as_aux_lemma =>
          go_upto_region 6 with (refine wpList_store_mid rfl 63 (.tmp 10) (.tmp 24) rfl w3.heap.size 0 #[.int .i64 df, .int .i64 ds, .int .i64 dl, .int .i64 dp, .slice ra rn rc] rfl rfl HTX.out Tryz.deckSz (by simp [Value.oneCell']) ?_; generalize World.setCells (w3.alloc (.cells #[.int .i64 0, .int .i64 0, .int .i64 0, .int .i64 0, .slice none 0 0] 63)) w3.heap.size 0 _ = w4 at HX4 HB4 HC4 HO4 HR4 ⊢)
          generalize w3.heap.size = D at HX4 hX3 ⊢
          clear HTX
          have HRX : Hid (w4.rangeAt D 0 [.int .i64 df, .int .i64 ds, .int .i64 dl, .int .i64 dp, .slice ra rn rc]) := fun j v hj => by rw [Nat.zero_add]; exact HX4.out.cell j hj
          clear HX4
          have HPF : Hid (Calls Tryz.prog 78 #[.agg #[.int .i64 df, .int .i64 ds, .int .i64 dl, .int .i64 dp, .slice ra rn rc], .string ⟨nm.toArray⟩, .int .i64 60000] w4 (PriceOfPost (priceV ds dl dp rates (nm.drop 1) 60000) w4)) := priceFor_any w4 df ds dl dp ra rn rc rates nm 60000 HR4.out hgd h1 h16 ⟨by omega, by omega⟩
          generalize priceV ds dl dp rates (nm.drop 1) 60000 = V at HE HPF
          obtain ⟨p, bb⟩ := V
          clear HR4 hgd
          as_aux_lemma =>
            go_wp2_with (refine wpList_load_mid rfl 63 (.tmp 10) rfl D 0 rfl [.int .i64 df, .int .i64 ds, .int .i64 dl, .int .i64 dp, .slice ra rn rc] _ HRX.out Tryz.underlying63 rfl Tryz.deckSz ?_)
            refine HPF.out.mono ?_
            rintro e w5 ⟨rfl, hb⟩
            have HB5 := Lib.hid (ext_trans HB4.out hb)
            have HC5 := Lib.hid (HC4.out.below hb)
            have HO5 : Hid (OffRow w5 w.heap.size vo os) := own_keep HO4.out hb
            clear hb HB4 HC4 HO4 HPF HRX
            have x0 := HC5.out.cell 0 rfl
            have x1 := HC5.out.cell 1 rfl
            have x2 := HC5.out.cell 2 rfl
            cases bb
            · have HE2 : Hid (offTo l (nm.drop 1) t (k + 1) = os) := by show _ = _; rw [HE.out, if_neg (by simp), List.append_nil]
              clear HE
              as_aux_lemma =>
                go_wp2_with fail
                go_roundw
                case rel => exact ⟨k + 1, by omega, by go_num, by rw [HE2.out]; exact HO5.out, HB5.out⟩
                case measure => simp [intOf]; omega
            · have HE2 : Hid (offTo l (nm.drop 1) t (k + 1) = os ++ [⟨ky, p⟩]) := by show _ = _; rw [HE.out, if_pos rfl]
              clear HE
              have hW9 : w.heap.size ≤ w5.heap.size := HB5.out.size
              obtain ⟨oa, oc, rfl⟩ := own_shape HO5.out
              have hvw : ∀ b, (Value.slice oa os.length oc).ownBlock = some b → w.heap.size ≤ b := fun b e => (HO5.out.lt b e).1
              have HOA : Hid (World.ownsRow (w5.alloc (.cells #[.string ⟨ky.toArray⟩, .int .i64 p] 80)) w.heap.size 80 2 (.slice oa os.length oc) os.length ((os.map Off.cells).flatten)) := World.ownsRow.alloc HO5.out (.cells #[.string ⟨ky.toArray⟩, .int .i64 p] 80)
              have HNA : Hid (Blk (w5.alloc (.cells #[.string ⟨ky.toArray⟩, .int .i64 p] 80)) w5.heap.size [.string ⟨ky.toArray⟩, .int .i64 p] 80) := Blk.new w5 [.string ⟨ky.toArray⟩, .int .i64 p] 80
              clear HO5
              as_aux_lemma =>
                go_wp2_with (first | (refine wpList_val rfl (bl_ofr0 _ (fun _ => rfl) _ _ 38 ⟨ky.toArray⟩ p rfl rfl) ?_) | (at_builtin; go_loud (refine wpList_append_own_at _ rfl (.tmp 34) (.tmp 39) 74 rfl w.heap.size 80 i1 _ 2 24 Tryz.underlying74 hi1 hy0 hy1 hy2 rfl (by omega) (.slice oa os.length oc) os.length _ rfl HOA.out ⟨w5.heap.size, 0, none⟩ 1 1 [.string ⟨ky.toArray⟩, .int .i64 p] rfl rfl (fun j u hj => by rw [add0]; exact HNA.out.cell j hj) (by simp [Value.oneCell']) (by simp only [maxLen]; omega) (by omega) (by simp; omega) ?_); intro v12 w12 hown12 hgr12 _ hat12; have HQ1 := Lib.hid hown12; have HQ2 := Lib.hid hgr12; clear hown12 hgr12 hat12 HOA HNA; refine Hid.out ?_))
                refine Lib.hid ?_
                have HO12 : Hid (OffRow w12 w.heap.size v12 (os ++ [⟨ky, p⟩])) := off_snoc HQ1.out
                have HB12 : Hid (Below w.heap.size w w12) := HB5.out.trans (upto_grown HQ2.out hW9 hvw)
                clear HQ1 HQ2
                as_aux_lemma =>
                  go_wp2_with fail
                  go_roundw
                  case rel => exact ⟨k + 1, by omega, by go_num, by rw [HE2.out]; exact HO12.out, HB12.out⟩
                  case measure => simp [intOf]; omega
end Go.Proofs.YtppinnjdaoaddaaGreatDoor
