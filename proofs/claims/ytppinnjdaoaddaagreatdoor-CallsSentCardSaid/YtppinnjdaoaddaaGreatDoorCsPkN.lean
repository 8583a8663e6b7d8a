/- What is proved here: lemmas and contracts for the statement, put together out of smaller texts (CarrFro, CarrSal, CarrDeckR). No condition beyond those stated. -/
import Derived.Test.YtppinnjdaoaddaaGreatDoorCsPkL
import Derived.Test.YtppinnjdaoaddaaGreatDoorCsPkM
import Derived.Test.YtppinnjdaoaddaaGreatDoorCsPkA
import Derived.Test.YtppinnjdaoaddaaGreatDoorCsPkK
import Derived.Test.YtppinnjdaoaddaaGreatDoorCsPkC
set_option linter.unusedVariables false
set_option linter.unusedSimpArgs false
namespace Go.Proofs.YtppinnjdaoaddaaGreatDoor
open Go.RowKit Go.Sort Go.Lib

theorem Tryz.infoIntF : (Tryz.prog.info? 3).map (fun i => (i.zero, i.size, i.bytes)) = some (some (.int .i64 0), 1, 8) := by kernel_rfl
def FreePost (fr : List (Off × Int)) (w : World) (e : Ending) (w' : World) : Prop := ∃ v1 v2, e = .returned (.tuple #[v1, v2]) ∧ OffRow w' w.heap.size v1 (fr.map (·.1)) ∧ w'.ownsRow w.heap.size 3 1 v2 fr.length (fr.map fun x => .int .i64 x.2) ∧ Below w.heap.size w w'
theorem off_gb {w w' : World} {row : Option Nat} {base : Nat} {v : Value} {l : List Off} (h : OffRow w base v l) (hg : w.grownBy w' row) (hd : ∀ b, v.ownBlock = some b → row ≠ some b) : OffRow w' base v l := own_gb h hg hd
theorem frx_pred (c : List UInt8) (p : Int) (u : Int) (A B : Nat) (cs : List Value) (w : World) (hA : Blk w A [.string ⟨c.toArray⟩, .int .i64 p] 80) (hB : Blk w B cs 83) (h3 : cs[3]? = some (.int .i64 u)) :
    PredBelow Tryz.prog 115 #[.pointer (some ⟨A, 0, none⟩), .pointer (some ⟨B, 0, none⟩)] (fun x : Flt => .agg (Flt.cells x).toArray) (fun x => decide (x.c = c) && inW u x) w := fun W x hb => by
  have k0 := (hA.below hb).cell 0 rfl
  have k1 := (hB.below hb).cell 3 h3
  have hAW := (hA.below hb).lt
  have hBW := (hB.below hb).lt
  have hne1 : A ≠ W.heap.size := by omega
  have hne2 : B ≠ W.heap.size := by omega
  have HB := Lib.hid hb
  clear hb hA hB h3
  obtain ⟨xc, xf, xt⟩ := x
  show Calls Tryz.prog 115 #[.agg #[.string ⟨xc.toArray⟩, .int .i64 xf, .int .i64 xt], .pointer (some ⟨A, 0, none⟩), .pointer (some ⟨B, 0, none⟩)] W _
  simp only
  have HE : Hid (inW u ⟨xc, xf, xt⟩ = (decide (xf ≤ u) && decide (u < xt))) := rfl
  have HBA : Hid (Below w.heap.size w (W.alloc (.cells #[.string ⟨xc.toArray⟩, .int .i64 xf, .int .i64 xt] 132))) := ext_alloc HB.out
  by_cases h : xc = c
  · subst h
    by_cases h1 : xf ≤ u
    · by_cases h2 : u < xt
      · go_enter Tryz.func115, Tryz.ntmps115
        go_wp2_with fail
        go_ret
        exact ⟨by rw [HE.out]; simp [h1, h2], by first | exact HBA.out | exact ext_drew HBA.out⟩
      · go_enter Tryz.func115, Tryz.ntmps115
        go_wp2_with fail
        go_ret
        exact ⟨by rw [HE.out]; simp [h1, h2], by first | exact HBA.out | exact ext_drew HBA.out⟩
    · go_enter Tryz.func115, Tryz.ntmps115
      go_wp2_with fail
      go_ret
      exact ⟨by rw [HE.out, show decide (xf ≤ u) = false from decide_eq_false (by omega)]; simp, by first | exact HBA.out | exact ext_drew HBA.out⟩
  · go_enter Tryz.func115, Tryz.ntmps115
    go_wp2_with fail
    go_ret
    exact ⟨by simp [h], by first | exact HBA.out | exact ext_drew HBA.out⟩
theorem bl_fro0 (e : Operand → Value) (he : ∀ v, e (.const v) = v) (o : Oper) (w : World) (i0 : Nat) (p0_0 : ByteArray) (z0_1 : Int) (ho : o.op = .buildSlice 74 1 #[(0, .tmp i0)]) (h0 : e (.tmp i0) = .agg #[.string p0_0, .int .i64 z0_1]) :
   (execOp e o).run Tryz.prog w = .ok (.value (.slice (some ⟨w.heap.size, 0, none⟩) 1 1)) (w.alloc (.cells #[.string p0_0, .int .i64 z0_1] 80)) := by
  unfold execOp
  rw [ho]
  simp only [List.map_toArray, List.map_cons, List.map_nil, h0]
  kernel_rfl
theorem bl_fro1 (e : Operand → Value) (he : ∀ v, e (.const v) = v) (o : Oper) (w : World) (i0 : Nat) (z0 : Int) (ho : o.op = .buildSlice 22 1 #[(0, .tmp i0)]) (h0 : e (.tmp i0) = .int .i64 z0) :
   (execOp e o).run Tryz.prog w = .ok (.value (.slice (some ⟨w.heap.size, 0, none⟩) 1 1)) (w.alloc (.cells #[.int .i64 z0] 3)) := by
  unfold execOp
  rw [ho]
  simp only [List.map_toArray, List.map_cons, List.map_nil, h0]
  kernel_rfl

set_option maxRecDepth 100000 in
set_option maxHeartbeats 80000000 in
theorem freeOffers_any (w : World) (a : Option Addr) (n cap : Nat) (l : List Carr) (hl : CarrRow w a n l) (hn3 : n ≤ 3) (h0 : carrsErr l = 0) (a1 : Option Addr) (n1 cap1 : Nat) (f : List Flt) (hf : FltRow w a1 n1 f) (r : Rcd) (hnum : isNumB r.to_ = true) (base : Nat) (v : Value) (L : List Flt) (hL : w.ownsRow base 132 3 v L.length ((L.map Flt.cells).flatten)) (hL1 : L.length ≤ 100) :
    Calls Tryz.prog 88 #[.slice a n cap, .slice a1 n1 cap1, .agg (Rcd.cells r).toArray, v] w (FreePost (freeTo l f L r.at_ (offL l r) (offL l r).length) w) := by
  obtain ⟨i1, hi1, hy0, hy1, hy2⟩ := info_parts Tryz.infoOff
  obtain ⟨i2, hi2, hz0, hz1, hz2⟩ := info_parts Tryz.infoIntF
  have hll : l.length ≤ 3 := by rw [← hl.len]; exact hn3
  have HOI := Lib.hid (fun i (hi : i < (offL l r).length) => offL_mem hll r _ (getD_memO hi))
  have hol := offL_len hll r
  obtain ⟨va, vc, rfl⟩ := own_shape hL
  obtain ⟨ri, rf, rt, ra, rr, rk, rh, rc⟩ := r
  simp only at hnum
  obtain ⟨d9, hrt, -, hd4, hd15⟩ := num_parts hnum
  have h1t : 1 ≤ rt.length := by rw [hrt]; simp
  have h16t : rt.length ≤ 16 := by rw [hrt]; simp; omega
  have HOF : Hid (∀ W, Below w.heap.size w W → Calls Tryz.prog 37 #[.slice a n cap, .string ⟨rt.toArray⟩, .int .i64 ra] W (OfsPost (offL l ⟨ri, rf, rt, ra, rr, rk, rh, rc⟩) W)) := fun W hW => by
    have := offersFor_any W a n cap l (hl.below hW) hn3 rt h1t h16t ra (good_row (hl.below hW) h0)
    rw [hl.len] at this
    show Calls Tryz.prog 37 _ _ (OfsPost (insL (ltOf cfP) (offTo l (rt.drop 1) ra l.length)) W)
    rw [sort_same (by omega) h0 (rt.drop 1) ra l.length (Nat.le_refl _) hll, hl.len]
    exact this
  have HFT : Hid (∀ i, freeTo l f L ra (offL l ⟨ri, rf, rt, ra, rr, rk, rh, rc⟩) (i + 1) = freeTo l f L ra (offL l ⟨ri, rf, rt, ra, rr, rk, rh, rc⟩) i ++ (if freeB l f L ((offL l ⟨ri, rf, rt, ra, rr, rk, rh, rc⟩).getD i noOff).c ra = true then [((offL l ⟨ri, rf, rt, ra, rr, rk, rh, rc⟩).getD i noOff, (i : Int))] else [])) := fun i => rfl
  generalize offL l ⟨ri, rf, rt, ra, rr, rk, rh, rc⟩ = os at HOI hol HOF HFT ⊢
  have HCR := Lib.hid hl
  have HR := Lib.hid hL
  have HFR := Lib.hid hf
  show Calls Tryz.prog 88 #[.slice a n cap, .slice a1 n1 cap1, .agg #[.string ⟨ri.toArray⟩, .string ⟨rf.toArray⟩, .string ⟨rt.toArray⟩, .int .i64 ra, .int .i64 rr, .int .i64 rk, .int .i64 rh, .string ⟨rc.toArray⟩], .slice va L.length vc] w (FreePost (freeTo l f L ra os os.length) w)
  have HX : Hid (Blk (w.alloc (.cells #[.string ⟨ri.toArray⟩, .string ⟨rf.toArray⟩, .string ⟨rt.toArray⟩, .int .i64 ra, .int .i64 rr, .int .i64 rk, .int .i64 rh, .string ⟨rc.toArray⟩] 83)) w.heap.size [.string ⟨ri.toArray⟩, .string ⟨rf.toArray⟩, .string ⟨rt.toArray⟩, .int .i64 ra, .int .i64 rr, .int .i64 rk, .int .i64 rh, .string ⟨rc.toArray⟩] 83) := Blk.new w [.string ⟨ri.toArray⟩, .string ⟨rf.toArray⟩, .string ⟨rt.toArray⟩, .int .i64 ra, .int .i64 rr, .int .i64 rk, .int .i64 rh, .string ⟨rc.toArray⟩] 83
  have HB1 : Hid (Below w.heap.size w (w.alloc (.cells #[.string ⟨ri.toArray⟩, .string ⟨rf.toArray⟩, .string ⟨rt.toArray⟩, .int .i64 ra, .int .i64 rr, .int .i64 rk, .int .i64 rh, .string ⟨rc.toArray⟩] 83))) := ext_alloc (Below.refl _ _)
  clear hl hL hf hnum hrt hd4 hd15 h0
  go_enter Tryz.func88, Tryz.ntmps88
  go_upto_region 3 with (fail)
  generalize w.alloc (.cells #[.string ⟨ri.toArray⟩, .string ⟨rf.toArray⟩, .string ⟨rt.toArray⟩, .int .i64 ra, .int .i64 rr, .int .i64 rk, .int .i64 rh, .string ⟨rc.toArray⟩] 83) = w1 at HX HB1 ⊢
  obtain ⟨X, hX⟩ : ∃ X, X = w.heap.size := ⟨_, rfl⟩
  rw [← hX] at HX ⊢
  clear hX
  have x2 := HX.out.cell 2 rfl
  have x3 := HX.out.cell 3 rfl
  as_aux_lemma =>
    go_wp2_with fail
    refine (HOF.out _ HB1.out).mono ?_
    rintro e w4 ⟨vO, rfl, how, hb4⟩
    obtain ⟨ga, gc, rfl⟩ := own_shape how
    have HW4 := Lib.hid how
    have HX4 := Lib.hid (HX.out.below hb4)
    have HB4 := Lib.hid (ext_trans HB1.out hb4)
    have hw4 : w.heap.size ≤ w4.heap.size := HB4.out.size
    clear how hb4 HX HB1 HOF x2 x3
    as_aux_lemma =>
      go_wp2_with fail
      go_loopw [10, 11, 25] (fun v1 v2 it wr => ∃ i : Nat, i ≤ os.length ∧ it = .int .i64 i ∧ Hid (OffRow wr w4.heap.size v1 ((freeTo l f L ra os i).map (·.1))) ∧ Hid (wr.ownsRow w4.heap.size 3 1 v2 (freeTo l f L ra os i).length ((freeTo l f L ra os i).map fun x => .int .i64 x.2)) ∧ Hid (Below w4.heap.size w4 wr)) (fun _ _ it _ => os.length - (intOf it).toNat)
      case atStart => exact ⟨0, Nat.zero_le _, rfl, World.ownsRow_nil _ _ _ _, World.ownsRow_nil _ _ _ _, Below.refl _ _⟩
      case round =>
        obtain ⟨i, hi, rfl, H1, H2, HB⟩ := hrel
        have hfl := freeTo_len l f L ra os i
        by_cases hlo : i < os.length
        case neg =>
          obtain rfl : i = os.length := by omega
          have HE : Hid (FreePost (freeTo l f L ra os os.length) w (.returned (.tuple #[u10, u11])) wr) := ⟨_, _, rfl, own_le H1.out hw4, own_le H2.out hw4, ext_trans HB4.out HB.out⟩
          obtain ⟨v1, rfl⟩ : ∃ x : Value, x = u10 := ⟨_, rfl⟩
          obtain ⟨v2, rfl⟩ : ∃ x : Value, x = u11 := ⟨_, rfl⟩
          clear H1 H2 HB HW4 HX4 HB4 HFT
          as_aux_lemma =>
            go_wp2_with fail
            go_ret2
            exact HE.out
        obtain ⟨v1, rfl⟩ : ∃ x : Value, x = u10 := ⟨_, rfl⟩
        obtain ⟨v2, rfl⟩ : ∃ x : Value, x = u11 := ⟨_, rfl⟩
        have hloi : (i : Int) < (os.length : Int) := by omega
        have HFT2 := Lib.hid (HFT.out i)
        have HID := Lib.hid (HOI.out i hlo)
        have HWi := Lib.hid (own_keep HW4.out HB.out)
        obtain ⟨g, rfl, hg0, hg1⟩ := own_pos HWi.out (by omega)
        have c0 := own_field Off.cells (fun _ => rfl) HWi.out i 0 noOff hlo (by omega) rfl
        have c1 := own_field Off.cells (fun _ => rfl) HWi.out i 1 noOff hlo (by omega) rfl
        rw [Nat.add_zero] at c0
        generalize os.getD i noOff = ox at c0 c1 HFT2 HID
        obtain ⟨oc, op⟩ := ox
        simp only at c0 c1 HID HFT2
        generalize hfr : freeTo l f L ra os i = fr at H1 H2 hfl HFT2
        clear hfr
        have hA : Below wr.heap.size wr (wr.alloc (.cells #[.string ⟨oc.toArray⟩, .int .i64 op] 80)) := ext_alloc (Below.refl _ _)
        have HV : Hid (Blk (wr.alloc (.cells #[.string ⟨oc.toArray⟩, .int .i64 op] 80)) wr.heap.size [.string ⟨oc.toArray⟩, .int .i64 op] 80) := Blk.new wr [.string ⟨oc.toArray⟩, .int .i64 op] 80
        have HB5 := Lib.hid (ext_trans HB.out hA)
        have H15 : Hid (OffRow _ w4.heap.size v1 (fr.map (·.1))) := Lib.hid (own_keep H1.out hA)
        have H25 := Lib.hid (own_keep H2.out hA)
        clear hA HB H1 H2 HWi
        as_aux_lemma =>
          go_upto_region 6 with (fail)
          generalize wr.alloc (.cells #[.string ⟨oc.toArray⟩, .int .i64 op] 80) = w5 at HV HB5 H15 H25 ⊢
          generalize wr.heap.size = V at HV ⊢
          clear c0 c1
          have HX5 := Lib.hid (HX4.out.below HB5.out)
          have HB5w := Lib.hid (ext_trans HB4.out HB5.out)
          have hcon : Calls Tryz.prog 114 #[.slice a1 n1 cap1, .func (.func 115) #[] #[.pointer (some ⟨V, 0, none⟩), .pointer (some ⟨X, 0, none⟩)]] w5 fun e w' => e = .returned (.bool (brk f oc ra)) ∧ Below w5.heap.size w5 w' := hasF_any 115 _ (by intro args w; rfl) w5 a1 n1 cap1 f (HFR.out.below HB5w.out) _ (frx_pred oc op ra V X _ w5 HV.out HX5.out rfl)
          have HCON := Lib.hid hcon
          have HFB : Hid (freeB l f L oc ra = (!brk f oc ra && decide (manyTo L oc ra L.length < linesOf l oc))) := rfl
          generalize freeB l f L oc ra = F at HFB HFT2
          generalize brk f oc ra = bk at HFB HCON
          clear hcon
          as_aux_lemma =>
            go_wp2_with fail
            refine HCON.out.mono ?_
            rintro e w6 ⟨rfl, hb6⟩
            have HV6 := Lib.hid (HV.out.below hb6)
            have HX6 := Lib.hid (HX5.out.below hb6)
            have HB6 := Lib.hid (ext_trans HB5.out hb6)
            have H16 : Hid (OffRow w6 w4.heap.size v1 (fr.map (·.1))) := Lib.hid (own_keep H15.out hb6)
            have H26 := Lib.hid (own_keep H25.out hb6)
            clear hb6 HCON HV HX5 HB5 H15 H25 HB5w
            obtain ⟨wo, rfl⟩ : ∃ x : World, x = wr := ⟨_, rfl⟩
            as_aux_lemma =>
              go_wp2_with fail
              go_loopw [15, 35] (fun mm it wr => ∃ k : Nat, k ≤ L.length ∧ mm = .int .i64 (manyTo L oc ra k) ∧ it = .int .i64 k ∧ Hid (Below w6.heap.size w6 wr)) (fun _ it _ => L.length - (intOf it).toNat)
              case atStart => exact ⟨0, Nat.zero_le _, rfl, rfl, Below.refl _ _⟩
              case round =>
                obtain ⟨k, hk, rfl, rfl, HBk⟩ := hrel
                obtain ⟨hm0, hm1⟩ := manyTo_bound L oc ra k
                have HXk := Lib.hid (HX6.out.below HBk.out)
                have HVk := Lib.hid (HV6.out.below HBk.out)
                by_cases hlk : k < L.length
                case neg =>
                  obtain rfl : k = L.length := by omega
                  have hlk2 : ¬ (L.length : Int) < (L.length : Int) := by omega
                  clear HR hm1
                  have HB7 := Lib.hid (ext_trans HB6.out HBk.out)
                  have H17 : Hid (OffRow wr w4.heap.size v1 (fr.map (·.1))) := Lib.hid (own_keep H16.out HBk.out)
                  have H27 := Lib.hid (own_keep H26.out HBk.out)
                  clear HBk HB6 H16 H26 HXk
                  generalize manyTo L oc ra L.length = M at HFB hm0 ⊢
                  cases bk
                  case true =>
                    obtain rfl : F = false := HFB.out
                    have HFT3 : Hid (freeTo l f L ra os (i + 1) = fr) := by show _ = _; rw [HFT2.out, if_neg (by decide), List.append_nil]
                    clear HFB HFT2
                    as_aux_lemma =>
                      go_wp2_with fail
                      go_roundw
                      case rel => exact ⟨i + 1, by omega, by go_num, by rw [HFT3.out]; exact H17.out, by rw [HFT3.out]; exact H27.out, HB7.out⟩
                      case measure => simp [intOf]; omega
                  have HF2 : Hid (F = decide (M < linesOf l oc)) := HFB.out
                  clear HFB
                  have HQL := Lib.hid (idxC_lt HID.out)
                  have HLN : Hid (linesOf l oc = (l.getD (idxC l oc).toNat noCarr).lines) := rfl
                  obtain ⟨qi, hqi⟩ : ∃ qi : Nat, idxC l oc = (qi : Int) := ⟨(idxC l oc).toNat, by have := HID.out; omega⟩
                  have hqn : qi < l.length := by have := HQL.out; rw [hqi] at this; simpa using this
                  have HBW := Lib.hid (ext_trans HB4.out HB7.out)
                  have hfd : Calls Tryz.prog 30 #[.slice a n cap, .string ⟨oc.toArray⟩] wr fun e w' => e = .returned (.int .i64 (qi : Int)) ∧ Below wr.heap.size wr w' := by
                    have := carrAt_any wr a n cap l (HCR.out.below HBW.out) oc
                    rw [hqi] at this
                    exact this
                  have HFD := Lib.hid hfd
                  have hnl := HCR.out.len
                  obtain ⟨b9, off9, rfl, hb9, hcc⟩ := (HCR.out.below HBW.out).at (by omega)
                  have k1 := (hcc qi (by omega)).2.1
                  have HLN2 : Hid ((l.getD qi noCarr).lines = linesOf l oc) := by
                    show _ = _
                    rw [HLN.out, hqi, Int.toNat_natCast]
                  rw [HLN2.out] at k1
                  have hqni : (qi : Int) < (n : Int) := by omega
                  generalize linesOf l oc = LN at HF2 k1
                  clear hcc hqi HQL HLN HLN2 hfd HID HBW hnl hqn
                  have v0 := HVk.out.cell 0 rfl
                  as_aux_lemma =>
                    go_wp2_with fail
                    refine HFD.out.mono ?_
                    rintro e w9 ⟨rfl, hb9'⟩
                    have k1 := (hb9'.cell (p := ⟨b9, off9 + qi * 3 + 1, none⟩) hb9).trans k1
                    have HV8 := HVk
                    have HB8 := HB7
                    have H18 := H17
                    have H28 := H27
                    have HV9 := Lib.hid (HV8.out.below hb9')
                    have HB9 := Lib.hid (ext_trans HB8.out hb9')
                    have H19 : Hid (OffRow w9 w4.heap.size v1 (fr.map (·.1))) := Lib.hid (own_keep H18.out hb9')
                    have H29 := Lib.hid (own_keep H28.out hb9')
                    clear HV8 HB8 H18 H28 HFD HVk HB7 H17 H27 v0 HV6
                    by_cases hML : M < LN
                    case neg =>
                      obtain rfl : F = false := by rw [HF2.out]; exact decide_eq_false hML
                      have HFT3 : Hid (freeTo l f L ra os (i + 1) = fr) := by show _ = _; rw [HFT2.out, if_neg (by decide), List.append_nil]
                      clear HF2 HFT2 hb9'
                      as_aux_lemma =>
                        go_wp2_with fail
                        go_roundw
                        case rel => exact ⟨i + 1, by omega, by go_num, by rw [HFT3.out]; exact H19.out, by rw [HFT3.out]; exact H29.out, HB9.out⟩
                        case measure => simp [intOf]; omega
                    obtain rfl : F = true := by rw [HF2.out]; exact decide_eq_true hML
                    have HFT3 : Hid (freeTo l f L ra os (i + 1) = fr ++ [(⟨oc, op⟩, (i : Int))]) := by show _ = _; rw [HFT2.out, if_pos rfl]
                    clear HF2 HFT2 hb9'
                    have y0 := HV9.out.cell 0 rfl
                    have y1 := HV9.out.cell 1 rfl
                    have hml : (fr.map (·.1)).length = fr.length := List.length_map ..
                    have H19' : Hid (w9.ownsRow w4.heap.size 80 2 v1 fr.length (((fr.map (·.1)).map Off.cells).flatten)) := by
                      have h9 := H19.out
                      unfold OffRow at h9
                      rw [hml] at h9
                      exact h9
                    clear H19
                    obtain ⟨oa, oc1, rfl⟩ := own_shape H19'.out
                    obtain ⟨ia, ic1, rfl⟩ := own_shape H29.out
                    have HOA : Hid (World.ownsRow (w9.alloc (.cells #[.string ⟨oc.toArray⟩, .int .i64 op] 80)) w4.heap.size 80 2 (.slice oa fr.length oc1) fr.length (((fr.map (·.1)).map Off.cells).flatten)) := World.ownsRow.alloc H19'.out (.cells #[.string ⟨oc.toArray⟩, .int .i64 op] 80)
                    have HNA : Hid (Blk (w9.alloc (.cells #[.string ⟨oc.toArray⟩, .int .i64 op] 80)) w9.heap.size [.string ⟨oc.toArray⟩, .int .i64 op] 80) := Blk.new w9 [.string ⟨oc.toArray⟩, .int .i64 op] 80
                    have hW9 : w4.heap.size ≤ w9.heap.size := HB9.out.size
                    have hvw : ∀ b, (Value.slice oa fr.length oc1).ownBlock = some b → w4.heap.size ≤ b := fun b e => (H19'.out.lt b e).1
                    as_aux_lemma =>
                      go_wp2_with (first | (refine wpList_val rfl (bl_fro0 _ (fun _ => rfl) _ _ 78 ⟨oc.toArray⟩ op rfl rfl) ?_) | (at_builtin; go_loud (refine wpList_append_own_at _ rfl (.tmp 77) (.tmp 79) 74 rfl w4.heap.size 80 i1 _ 2 24 Tryz.underlying74 hi1 hy0 hy1 hy2 rfl (by omega) (.slice oa fr.length oc1) fr.length _ rfl HOA.out ⟨w9.heap.size, 0, none⟩ 1 1 [.string ⟨oc.toArray⟩, .int .i64 op] rfl rfl (fun j u hj => by rw [add0]; exact HNA.out.cell j hj) (by simp [Value.oneCell']) (by simp only [maxLen]; omega) (by omega) (by simp; omega) ?_); intro v12 w12 hown12 hgr12 _ hat12; have HQ1 := Lib.hid hown12; have HQ2 := Lib.hid hgr12; clear hown12 hgr12 hat12 HOA HNA; refine Hid.out ?_))
                      refine Lib.hid ?_
                      have HO12 : Hid (OffRow w12 w4.heap.size v12 ((fr ++ [((⟨oc, op⟩ : Off), (i : Int))]).map (·.1))) := by
                        show OffRow _ _ _ _
                        rw [List.map_append]
                        refine off_snoc ?_
                        rw [hml]
                        exact HQ1.out
                      have hg12 := gb_alloc HQ2.out
                      have HI12 := Lib.hid (own_gb H29.out hg12 (fun b h9 e => own_types H19'.out H29.out (by decide) b e h9))
                      have HB12 : Hid (Below w4.heap.size w4 w12) := HB9.out.trans (upto_grown HQ2.out hW9 hvw)
                      clear HQ1 HQ2 hg12 H19' H29 HB9 HV9 y0 y1
                      have HIA : Hid (World.ownsRow (w12.alloc (.cells #[.int .i64 (i : Int)] 3)) w4.heap.size 3 1 (.slice ia fr.length ic1) fr.length (fr.map fun x => .int .i64 x.2)) := World.ownsRow.alloc HI12.out (.cells #[.int .i64 (i : Int)] 3)
                      have HNI : Hid (Blk (w12.alloc (.cells #[.int .i64 (i : Int)] 3)) w12.heap.size [.int .i64 (i : Int)] 3) := Blk.new w12 [.int .i64 (i : Int)] 3
                      have hW12 : w4.heap.size ≤ w12.heap.size := HB12.out.size
                      have hvi : ∀ b, (Value.slice ia fr.length ic1).ownBlock = some b → w4.heap.size ≤ b := fun b e => (HI12.out.lt b e).1
                      as_aux_lemma =>
                        go_wp2_with (first | (refine wpList_val rfl (bl_fro1 _ (fun _ => rfl) _ _ 82 ((i : Int)) rfl rfl) ?_) | (at_builtin; go_loud (refine wpList_append_own_at _ rfl (.tmp 81) (.tmp 83) 22 rfl w4.heap.size 3 i2 _ 1 8 Tryz.underlying22 hi2 hz0 hz1 hz2 rfl (by omega) (.slice ia fr.length ic1) fr.length _ rfl HIA.out ⟨w12.heap.size, 0, none⟩ 1 1 [.int .i64 (i : Int)] rfl rfl (fun j u hj => by rw [add0]; exact HNI.out.cell j hj) (by simp [Value.oneCell']) (by simp only [maxLen]; omega) (by omega) (by simp; omega) ?_); intro v13 w13 hown13 hgr13 _ hat13; have HQ1 := Lib.hid hown13; have HQ2 := Lib.hid hgr13; clear hown13 hgr13 hat13 HIA HNI; refine Hid.out ?_))
                        refine Lib.hid ?_
                        have HI13 : Hid (w13.ownsRow w4.heap.size 3 1 v13 (fr ++ [((⟨oc, op⟩ : Off), (i : Int))]).length ((fr ++ [((⟨oc, op⟩ : Off), (i : Int))]).map fun x => .int .i64 x.2)) := by
                          show World.ownsRow _ _ _ _ _ _ _
                          rw [List.map_append, List.length_append]
                          exact HQ1.out
                        have hg13 := gb_alloc HQ2.out
                        have HO13 : Hid (OffRow w13 w4.heap.size v12 ((fr ++ [((⟨oc, op⟩ : Off), (i : Int))]).map (·.1))) := own_gb HO12.out hg13 (fun b h9 e => own_types HO12.out HI12.out (by decide) b h9 e)
                        have HB13 : Hid (Below w4.heap.size w4 w13) := HB12.out.trans (upto_grown HQ2.out hW12 hvi)
                        clear HQ1 HQ2 hg13 HI12 HO12 HB12
                        as_aux_lemma =>
                          go_wp2_with fail
                          go_roundw
                          case rel => exact ⟨i + 1, by omega, by go_num, by rw [HFT3.out]; exact HO13.out, by rw [HFT3.out]; exact HI13.out, HB13.out⟩
                          case measure => simp [intOf]; omega
                have HRk := Lib.hid (own_keep HR.out (ext_trans HB4.out (ext_trans HB6.out HBk.out)))
                obtain ⟨g9, rfl, hg90, hg91⟩ := own_pos HRk.out (by omega)
                have c0 := own_field Flt.cells (fun _ => rfl) HRk.out k 0 noFlt hlk (by omega) rfl
                have c1 := own_field Flt.cells (fun _ => rfl) HRk.out k 1 noFlt hlk (by omega) rfl
                have c2 := own_field Flt.cells (fun _ => rfl) HRk.out k 2 noFlt hlk (by omega) rfl
                rw [Nat.add_zero] at c0
                have HMT : Hid (manyTo L oc ra (k + 1) = if (decide ((L.getD k noFlt).c = oc) && inW ra (L.getD k noFlt)) = true then manyTo L oc ra k + 1 else manyTo L oc ra k) := rfl
                have hlki : (k : Int) < (L.length : Int) := by omega
                generalize L.getD k noFlt = x at c0 c1 c2 HMT
                obtain ⟨xc, xf, xt⟩ := x
                simp only at c0 c1 c2
                generalize manyTo L oc ra k = M at HMT hm0 hm1 ⊢
                have HIN : Hid (inW ra ⟨xc, xf, xt⟩ = (decide (xf ≤ ra) && decide (ra < xt))) := rfl
                have hA : Below wr.heap.size wr (wr.alloc (.cells #[.string ⟨xc.toArray⟩, .int .i64 xf, .int .i64 xt] 132)) := ext_alloc (Below.refl _ _)
                have HZ : Hid (Blk (wr.alloc (.cells #[.string ⟨xc.toArray⟩, .int .i64 xf, .int .i64 xt] 132)) wr.heap.size [.string ⟨xc.toArray⟩, .int .i64 xf, .int .i64 xt] 132) := Blk.new wr [.string ⟨xc.toArray⟩, .int .i64 xf, .int .i64 xt] 132
                have HBA := Lib.hid (ext_trans HBk.out hA)
                have HXA := Lib.hid (HXk.out.below hA)
                have HVA := Lib.hid (HVk.out.below hA)
                clear hA HBk HXk HVk HRk
                as_aux_lemma =>
                  go_upto_region 11 with (fail)
                  generalize wr.alloc (.cells #[.string ⟨xc.toArray⟩, .int .i64 xf, .int .i64 xt] 132) = w7 at HZ HBA HXA HVA ⊢
                  generalize wr.heap.size = Z at HZ ⊢
                  clear c0 c1 c2
                  have z0 := HZ.out.cell 0 rfl
                  have z1 := HZ.out.cell 1 rfl
                  have z2 := HZ.out.cell 2 rfl
                  have x3 := HXA.out.cell 3 rfl
                  have v0 := HVA.out.cell 0 rfl
                  have wm : IntKind.i64.wrap (M + 1) = M + 1 := IntWalk.i64_in _ (by omega)
                  clear HZ HXA HVA
                  by_cases h : xc = oc
                  case neg =>
                    have HM2 : Hid (manyTo L oc ra (k + 1) = M) := by show _ = _; rw [HMT.out, if_neg (by simp [h])]
                    clear HMT HIN
                    as_aux_lemma =>
                      go_wp2_with fail
                      go_roundw
                      case rel => exact ⟨k + 1, by omega, by rw [HM2.out], by go_num, HBA.out⟩
                      case measure => simp [intOf]; omega
                  have HM1 : Hid (manyTo L oc ra (k + 1) = if (decide (xf ≤ ra) && decide (ra < xt)) = true then M + 1 else M) := by show _ = _; rw [HMT.out, HIN.out]; simp only [h, decide_true, Bool.true_and]
                  clear HMT HIN
                  subst h
                  by_cases h1 : xf ≤ ra
                  case neg =>
                    have HM2 : Hid (manyTo L xc ra (k + 1) = M) := by show _ = _; rw [HM1.out, decide_eq_false h1]; rfl
                    clear HM1
                    as_aux_lemma =>
                      go_wp2_with fail
                      go_roundw
                      case rel => exact ⟨k + 1, by omega, by rw [HM2.out], by go_num, HBA.out⟩
                      case measure => simp [intOf]; omega
                  by_cases h2 : ra < xt
                  case neg =>
                    have HM2 : Hid (manyTo L xc ra (k + 1) = M) := by show _ = _; rw [HM1.out, decide_eq_true h1, decide_eq_false h2]; rfl
                    clear HM1
                    as_aux_lemma =>
                      go_wp2_with fail
                      go_roundw
                      case rel => exact ⟨k + 1, by omega, by rw [HM2.out], by go_num, HBA.out⟩
                      case measure => simp [intOf]; omega
                  have HM2 : Hid (manyTo L xc ra (k + 1) = M + 1) := by show _ = _; rw [HM1.out, decide_eq_true h1, decide_eq_true h2]; rfl
                  clear HM1
                  as_aux_lemma =>
                    go_wp2_with fail
                    go_roundw
                    case rel => exact ⟨k + 1, by omega, by rw [HM2.out], by go_num, HBA.out⟩
                    case measure => simp [intOf]; omega
end Go.Proofs.YtppinnjdaoaddaaGreatDoor

set_option linter.unusedVariables false
set_option linter.unusedSimpArgs false
namespace Go.Proofs.YtppinnjdaoaddaaGreatDoor
open Go.RowKit Go.Sort Go.Lib

theorem refR_bound {l : List Carr} {f : List Flt} {r : Rcd} {st : SSt} {P : Int} (hP : 0 ≤ P) (hp : ∀ o ∈ offL l r, 0 ≤ priceBy l r o.c ∧ priceBy l r o.c ≤ P) :
    (refR l f r st).out.length = st.out.length + 1 ∧ (refR l f r st).calls.length ≤ st.calls.length + 1 ∧ st.saved - P ≤ (refR l f r st).saved ∧ (refR l f r st).saved ≤ st.saved + P := by
  have hfm := freeTo_mem (l := l) (f := f) (L := st.calls) (t := r.at_) (os := offL l r) _ (Nat.le_refl _)
  unfold refR
  simp only
  generalize freeTo l f st.calls r.at_ (offL l r) (offL l r).length = fr at hfm ⊢
  have hd := dear_bound hP (fun x hx => hp _ (hfm x hx).1) _ (Nat.le_refl fr.length)
  generalize dearTo l r fr fr.length = d at hd ⊢
  cases fr with
  | nil =>
    refine ⟨by simp, by simp [lastTo], ?_, ?_⟩ <;> simp only [sntTo, List.length_nil, if_true] <;> omega
  | cons x fr =>
    have hx := hp _ (hfm x (List.mem_cons_self ..)).1
    refine ⟨by simp, by simp [lastTo], ?_, ?_⟩ <;> simp only [sntTo, List.length_cons, Nat.succ_ne_zero, if_false, List.getD_cons_zero] <;> omega
theorem refAll_bound {l : List Carr} {f : List Flt} {rs : List Rcd} (hp : ∀ i, i < rs.length → ∀ o ∈ offL l (rs.getD i noRcd), 0 ≤ priceBy l (rs.getD i noRcd) o.c ∧ priceBy l (rs.getD i noRcd) o.c ≤ 1000000000000) : ∀ k, k ≤ rs.length →
    (refAll l f rs k).out.length = k ∧ (refAll l f rs k).calls.length ≤ k ∧ -(1000000000000 * (k : Int)) ≤ (refAll l f rs k).saved ∧ (refAll l f rs k).saved ≤ 1000000000000 * (k : Int)
  | 0, _ => ⟨rfl, Nat.le_refl _, by simp [refAll], by simp [refAll]⟩
  | k + 1, hk => by
    obtain ⟨h1, h2, h3, h4⟩ := refAll_bound (f := f) hp k (by omega)
    obtain ⟨p1, p2, p3, p4⟩ := refR_bound (f := f) (st := refAll l f rs k) (show (0 : Int) ≤ 1000000000000 by decide) (hp k (by omega))
    exact ⟨by show (refR l f (rs.getD k noRcd) (refAll l f rs k)).out.length = _; omega, by show (refR l f (rs.getD k noRcd) (refAll l f rs k)).calls.length ≤ _; omega, by show _ ≤ (refR l f (rs.getD k noRcd) (refAll l f rs k)).saved; omega, by show (refR l f (rs.getD k noRcd) (refAll l f rs k)).saved ≤ _; omega⟩
theorem costE_fine {l : List Carr} {r : Rcd} (h0 : carrsErr l = 0) (h1 : isNumB r.to_ = true) (h2 : isMomB r.at_ = true) (h3 : 0 ≤ r.talk ∧ r.talk ≤ 86400000) (h4 : 0 ≤ idxC l r.carrier) : costE l r = 0 := by
  unfold costE
  have e3 : inB r.talk 0 86400000 = true := by unfold inB; simp [h3]
  rw [if_neg (by rw [h0]; simp), if_neg (by rw [h1]; decide), if_neg (by rw [h2, e3]; decide), if_neg (fun h => by omega)]
theorem offL_key {l : List Carr} (hl : l.length ≤ 3) (r : Rcd) : ∀ o ∈ offL l r, ∃ i, i < l.length ∧ o.c = (l.getD i noCarr).key := fun o ho => offTo_keys _ _ l.length (Nat.le_refl _) o (insL_mem _ _ (Nat.le_trans (offTo_len _ _ _ _) hl) o ho)
theorem blk_ne {w : World} {X Y : Nat} {cs ds : List Value} {t u : TypeId} (h : Blk w X cs t) (k : Blk w Y ds u) (hne : t ≠ u) : X ≠ Y := fun e => by
  subst e
  have h1 := h.at_
  rw [k.at_] at h1
  injection h1 with h1
  injection h1 with _ h9
  exact hne h9.symm
theorem Tryz.infoFlt : (Tryz.prog.info? 132).map (fun i => (i.zero, i.size, i.bytes)) = some (some (.agg #[.string ⟨#[]⟩, .int .i64 0, .int .i64 0]), 3, 32) := by kernel_rfl
theorem Tryz.rcdSzS : (Tryz.prog.info? 83).map (·.size) = some 8 := by kernel_rfl
theorem Tryz.sntSz : (Tryz.prog.info? 102).map (·.size) = some 4 := by kernel_rfl
/-- What lies in memory while free offers are gone through. -/
structure SalW (B0 : Nat) (w wr : World) (vo vf vt vl : Value) (so : List Snt) (fr : List (Off × Int)) (Lc : List Flt) (X Y : Nat) (rx : Rcd) (s : Snt) : Prop where
  out : wr.ownsRow B0 102 4 vo so.length ((so.map Snt.cells).flatten)
  oy : vo.ownBlock ≠ some Y
  free : wr.ownsRow B0 80 2 vf fr.length (((fr.map (·.1)).map Off.cells).flatten)
  tried : wr.ownsRow B0 3 1 vt fr.length (fr.map fun x => .int .i64 x.2)
  last : wr.ownsRow B0 132 3 vl Lc.length ((Lc.map Flt.cells).flatten)
  x : Blk wr X (Rcd.cells rx) 83
  y : Blk wr Y (Snt.cells s) 102
  hx : B0 ≤ X
  hy : B0 ≤ Y
  low : Below B0 w wr
  hb : B0 ≤ wr.heap.size
theorem SalW.below {B0 : Nat} {w wr w' : World} {vo vf vt vl : Value} {so : List Snt} {fr : List (Off × Int)} {Lc : List Flt} {X Y : Nat} {rx : Rcd} {s : Snt} (h : SalW B0 w wr vo vf vt vl so fr Lc X Y rx s) (hb : Below wr.heap.size wr w') : SalW B0 w w' vo vf vt vl so fr Lc X Y rx s :=
  ⟨own_keep h.out hb, h.oy, own_keep h.free hb, own_keep h.tried hb, own_keep h.last hb, h.x.below hb, h.y.below hb, h.hx, h.hy, h.low.trans (hb.mono h.hb), Nat.le_trans h.hb hb.size⟩
theorem SalW.setX {B0 : Nat} {w wr : World} {vo vf vt vl : Value} {so : List Snt} {fr : List (Off × Int)} {Lc : List Flt} {X Y : Nat} {rx : Rcd} {s : Snt} (h : SalW B0 w wr vo vf vt vl so fr Lc X Y rx s) (c : List UInt8) : SalW B0 w (wr.setCell ⟨X, 7, none⟩ (.string ⟨c.toArray⟩)) vo vf vt vl so fr Lc X Y { rx with carrier := c } s := by
  have hg : wr.grownBy (wr.setCell ⟨X, 7, none⟩ (.string ⟨c.toArray⟩)) (some X) := setCells_gb X [.string ⟨c.toArray⟩] 7
  have hd : ∀ {base e size : Nat} {v : Value} {n : Nat} {xs : List Value}, wr.ownsRow base e size v n xs → e ≠ 83 → ∀ b, v.ownBlock = some b → (some X : Option Nat) ≠ some b := fun h1 h2 b hb e9 => own_blk h1 h.x h2 (by rw [hb, ← e9])
  exact ⟨own_gb h.out hg (hd h.out (by decide)), h.oy, own_gb h.free hg (hd h.free (by decide)), own_gb h.tried hg (hd h.tried (by decide)), own_gb h.last hg (hd h.last (by decide)), h.x.put 7 (.string ⟨c.toArray⟩), h.y.grown hg (fun e => blk_ne h.x h.y (by decide) (by injection e)), h.hx, h.hy, h.low.trans (gb_to_below hg h.hb (fun b e => by injection e with e; have := h.hx; omega)), Nat.le_trans h.hb hg.size⟩
theorem SalW.setY {B0 : Nat} {w wr : World} {vo vf vt vl : Value} {so : List Snt} {fr : List (Off × Int)} {Lc : List Flt} {X Y : Nat} {rx : Rcd} {s : Snt} (h : SalW B0 w wr vo vf vt vl so fr Lc X Y rx s) (c : List UInt8) (t p : Int) : SalW B0 w (((wr.setCell ⟨Y, 1, none⟩ (.string ⟨c.toArray⟩)).setCell ⟨Y, 2, none⟩ (.int .i64 t)).setCell ⟨Y, 3, none⟩ (.int .i64 p)) vo vf vt vl so fr Lc X Y rx ⟨s.call, c, t, p⟩ := by
  have hg : wr.grownBy (((wr.setCell ⟨Y, 1, none⟩ (.string ⟨c.toArray⟩)).setCell ⟨Y, 2, none⟩ (.int .i64 t)).setCell ⟨Y, 3, none⟩ (.int .i64 p)) (some Y) := setCells_gb Y [.string ⟨c.toArray⟩, .int .i64 t, .int .i64 p] 1
  have hd : ∀ {base e size : Nat} {v : Value} {n : Nat} {xs : List Value}, wr.ownsRow base e size v n xs → e ≠ 102 → ∀ b, v.ownBlock = some b → (some Y : Option Nat) ≠ some b := fun h1 h2 b hb e9 => own_blk h1 h.y h2 (by rw [hb, ← e9])
  exact ⟨own_gb h.out hg (fun b hb e9 => h.oy (by rw [hb, ← e9])), h.oy, own_gb h.free hg (hd h.free (by decide)), own_gb h.tried hg (hd h.tried (by decide)), own_gb h.last hg (hd h.last (by decide)), h.x.grown hg (fun e => blk_ne h.y h.x (by decide) (by injection e)), ((h.y.put 1 (.string ⟨c.toArray⟩)).put 2 (.int .i64 t)).put 3 (.int .i64 p), h.hx, h.hy, h.low.trans (gb_to_below hg h.hb (fun b e => by injection e with e; have := h.hy; omega)), Nat.le_trans h.hb hg.size⟩
theorem SalW.app {B0 : Nat} {w wr w' : World} {vo vf vt vl vl' : Value} {so : List Snt} {fr : List (Off × Int)} {Lc Lc' : List Flt} {X Y : Nat} {rx : Rcd} {s : Snt} (h : SalW B0 w wr vo vf vt vl so fr Lc X Y rx s) (hg : wr.grownBy w' vl.ownBlock) (hl : w'.ownsRow B0 132 3 vl' Lc'.length ((Lc'.map Flt.cells).flatten)) : SalW B0 w w' vo vf vt vl' so fr Lc' X Y rx s := by
  have hd : ∀ {base e size : Nat} {v : Value} {n : Nat} {xs : List Value}, wr.ownsRow base e size v n xs → e ≠ 132 → ∀ b, v.ownBlock = some b → vl.ownBlock ≠ some b := fun h1 h2 b hb => own_types h1 h.last h2 b hb
  exact ⟨own_gb h.out hg (hd h.out (by decide)), h.oy, own_gb h.free hg (hd h.free (by decide)), own_gb h.tried hg (hd h.tried (by decide)), hl, h.x.grown hg (own_blk h.last h.x (by decide)), h.y.grown hg (own_blk h.last h.y (by decide)), h.hx, h.hy, h.low.trans (gb_to_below hg h.hb (fun b e => (h.last.lt b e).1)), Nat.le_trans h.hb hg.size⟩
theorem bd_sal (e : Operand → Value) (o : Oper) (w : World) (p0 : ByteArray) (z2 : Int) (ho : o.op = .build 102 #[(0, .tmp 36), (2, .tmp 43)]) (h0 : e (.tmp 36) = .string p0) (h2 : e (.tmp 43) = .int .i64 z2) :
   (execOp e o).run Tryz.prog w = .ok (.value (.agg #[.string p0, .string ⟨#[]⟩, .int .i64 z2, .int .i64 0])) w := by
  unfold execOp
  rw [ho]
  simp only [List.map_toArray, List.map_cons, List.map_nil, h0, h2]
  kernel_rfl
theorem bl_sal0 (e : Operand → Value) (he : ∀ v, e (.const v) = v) (o : Oper) (w : World) (i0 : Nat) (p0_0 : ByteArray) (p0_1 : ByteArray) (z0_2 : Int) (z0_3 : Int) (ho : o.op = .buildSlice 92 1 #[(0, .tmp i0)]) (h0 : e (.tmp i0) = .agg #[.string p0_0, .string p0_1, .int .i64 z0_2, .int .i64 z0_3]) :
   (execOp e o).run Tryz.prog w = .ok (.value (.slice (some ⟨w.heap.size, 0, none⟩) 1 1)) (w.alloc (.cells #[.string p0_0, .string p0_1, .int .i64 z0_2, .int .i64 z0_3] 102)) := by
  unfold execOp
  rw [ho]
  simp only [List.map_toArray, List.map_cons, List.map_nil, h0]
  kernel_rfl
theorem bl_sal1 (e : Operand → Value) (he : ∀ v, e (.const v) = v) (o : Oper) (w : World) (i0 : Nat) (p0_0 : ByteArray) (z0_1 : Int) (z0_2 : Int) (ho : o.op = .buildSlice 89 1 #[(0, .tmp i0)]) (h0 : e (.tmp i0) = .agg #[.string p0_0, .int .i64 z0_1, .int .i64 z0_2]) :
   (execOp e o).run Tryz.prog w = .ok (.value (.slice (some ⟨w.heap.size, 0, none⟩) 1 1)) (w.alloc (.cells #[.string p0_0, .int .i64 z0_1, .int .i64 z0_2] 132)) := by
  unfold execOp
  rw [ho]
  simp only [List.map_toArray, List.map_cons, List.map_nil, h0]
  kernel_rfl

set_option maxRecDepth 100000 in
set_option maxHeartbeats 80000000 in
theorem sendAll_any (w : World) (a : Option Addr) (n cap : Nat) (l : List Carr) (hl : CarrRow w a n l) (hcap : n ≤ cap) (hn3 : n ≤ 3) (h0 : carrsErr l = 0) (a1 : Option Addr) (n1 cap1 : Nat) (f : List Flt) (hf : FltRow w a1 n1 f) (a2 : Option Addr) (m cap2 : Nat) (rs : List Rcd) (hs : RcdRow w a2 m rs) (hm : m ≤ 20) (hz : ∀ i, i < rs.length → sndErr rs i = 0) :
    Calls Tryz.prog 47 #[.slice a n cap, .slice a1 n1 cap1, .slice a2 m cap2] w (SendPost (refAll l f rs m).out (refAll l f rs m).saved w) := by
  obtain ⟨i1, hi1, hy0, hy1, hy2⟩ := info_parts Tryz.infoSnt
  obtain ⟨i2, hi2, hz0, hz1, hz2⟩ := info_parts Tryz.infoFlt
  have hlen := hs.len
  have hll : l.length ≤ 3 := by rw [← hl.len]; exact hn3
  have hgood : ∀ t, GoodAt l t := fun t => good_row hl h0
  have hpr : ∀ i, i < rs.length → ∀ o ∈ offL l (rs.getD i noRcd), 0 ≤ priceBy l (rs.getD i noRcd) o.c ∧ priceBy l (rs.getD i noRcd) o.c ≤ 1000000000000 := fun i hi => offL_price hll (hgood _) (snd_zero (hz i hi)).2.2.2.1
  have HBD := Lib.hid (fun k (hk : k ≤ m) => refAll_bound (f := f) hpr k (by rw [← hlen]; exact hk))
  have HPR := Lib.hid hpr
  have HCR := Lib.hid hl
  have HFR := Lib.hid hf
  have HSR := Lib.hid hs
  have HZ := Lib.hid hz
  have HLL := Lib.hid hll
  have HLEN := Lib.hid hlen
  have HC0 := Lib.hid h0
  clear hl hf hs hgood hpr hz hll hlen h0
  go_enter Tryz.func47, Tryz.ntmps47
  go_wp2_with fail
  go_loopw [8, 9, 10, 23] (fun vo vl vs it wr => ∃ (k : Nat) (st : SSt), k ≤ m ∧ it = .int .i64 k ∧ Hid (st = refAll l f rs k) ∧ vs = .int .i64 st.saved ∧ Hid (wr.ownsRow w.heap.size 102 4 vo st.out.length ((st.out.map Snt.cells).flatten)) ∧ Hid (wr.ownsRow w.heap.size 132 3 vl st.calls.length ((st.calls.map Flt.cells).flatten)) ∧ Hid (Below w.heap.size w wr)) (fun _ _ _ it _ => m - (intOf it).toNat)
  case atStart => exact ⟨0, ⟨[], [], 0⟩, Nat.zero_le _, rfl, rfl, rfl, World.ownsRow_nil _ _ _ _, World.ownsRow_nil _ _ _ _, Below.refl _ _⟩
  case round =>
    obtain ⟨k, st, hk, rfl, HST, rfl, HO, HC, HB⟩ := hrel
    obtain ⟨hb1, hb2, hb3, hb4⟩ := HBD.out k hk
    rw [← HST.out] at hb1 hb2 hb3 hb4
    by_cases hlt : k < m
    case neg =>
      obtain rfl : k = m := by omega
      have HE : Hid (SendPost (refAll l f rs k).out (refAll l f rs k).saved w (.returned (.tuple #[u8, .int .i64 st.saved])) wr) := by
        show SendPost _ _ _ _ _
        rw [← HST.out]
        exact ⟨_, rfl, HO.out, HB.out⟩
      clear HO HC HB HBD
      obtain ⟨vo, rfl⟩ : ∃ x : Value, x = u8 := ⟨_, rfl⟩
      as_aux_lemma =>
        go_wp2_with fail
        go_ret2
        exact HE.out
    have hki : (k : Int) < (m : Int) := by omega
    have HSTEP : Hid (refAll l f rs (k + 1) = refR l f (rs.getD k noRcd) st) := by show refR l f (rs.getD k noRcd) (refAll l f rs k) = _; rw [HST.out]
    have hkl : k < rs.length := by rw [← HLEN.out]; exact hlt
    have HSZ := Lib.hid (snd_zero (HZ.out k hkl))
    have HPK := Lib.hid (HPR.out k hkl)
    obtain ⟨b, off, rfl, hb, hc⟩ := (HSR.out.below HB.out).at (by omega)
    obtain ⟨c0, c1, c2, c3, c4, c5, c6, c7⟩ := hc k hlt
    obtain ⟨e0, e1, e2, e3, e4, e5, e6, e7⟩ := (HSR.out.below HB.out).each k (by rw [← HLEN.out]; exact hlt)
    clear hc
    generalize rs.getD k noRcd = r at HSTEP HSZ HPK c0 c1 c2 c3 c4 c5 c6 c7 e0 e1 e2 e3 e4 e5 e6 e7
    obtain ⟨ri, rf, rt, ra, rr, rk, rh, rc⟩ := r
    simp only at HSZ c0 c1 c2 c3 c4 c5 c6 c7 e0 e1 e2 e3 e4 e5 e6 e7
    obtain ⟨hnum, hmom, hring, htalk, -⟩ := HSZ.out
    have HX : Hid (Blk (wr.alloc (.cells #[.string ⟨ri.toArray⟩, .string ⟨rf.toArray⟩, .string ⟨rt.toArray⟩, .int .i64 ra, .int .i64 rr, .int .i64 rk, .int .i64 rh, .string ⟨rc.toArray⟩] 83)) wr.heap.size [.string ⟨ri.toArray⟩, .string ⟨rf.toArray⟩, .string ⟨rt.toArray⟩, .int .i64 ra, .int .i64 rr, .int .i64 rk, .int .i64 rh, .string ⟨rc.toArray⟩] 83) := Blk.new wr [.string ⟨ri.toArray⟩, .string ⟨rf.toArray⟩, .string ⟨rt.toArray⟩, .int .i64 ra, .int .i64 rr, .int .i64 rk, .int .i64 rh, .string ⟨rc.toArray⟩] 83
    have hA : Below wr.heap.size wr (wr.alloc (.cells #[.string ⟨ri.toArray⟩, .string ⟨rf.toArray⟩, .string ⟨rt.toArray⟩, .int .i64 ra, .int .i64 rr, .int .i64 rk, .int .i64 rh, .string ⟨rc.toArray⟩] 83)) := ext_alloc (Below.refl _ _)
    have HB1 := Lib.hid (ext_trans HB.out hA)
    have HO1 := Lib.hid (own_keep HO.out hA)
    have HC1 := Lib.hid (own_keep HC.out hA)
    have hBw : w.heap.size ≤ wr.heap.size := HB.out.size
    clear hA HB HO HC HSZ HBD HPR HZ HST
    obtain ⟨vo, rfl⟩ : ∃ x : Value, x = u8 := ⟨_, rfl⟩
    obtain ⟨vl, rfl⟩ : ∃ x : Value, x = u9 := ⟨_, rfl⟩
    obtain ⟨so, sc, ss⟩ := st
    simp only at hb1 hb2 hb3 hb4 HSTEP HO1 HC1
    as_aux_lemma =>
      go_upto_region 7 with (fail)
      generalize wr.alloc (.cells #[.string ⟨ri.toArray⟩, .string ⟨rf.toArray⟩, .string ⟨rt.toArray⟩, .int .i64 ra, .int .i64 rr, .int .i64 rk, .int .i64 rh, .string ⟨rc.toArray⟩] 83) = w1 at HX HB1 HO1 HC1 ⊢
      obtain ⟨X, hX⟩ : ∃ X, X = wr.heap.size := ⟨_, rfl⟩
      rw [← hX] at HX hBw ⊢
      clear hX c0 c1 c2 c3 c4 c5 c6 c7
      have hfo : Calls Tryz.prog 88 #[.slice a n cap, .slice a1 n1 cap1, .agg #[.string ⟨ri.toArray⟩, .string ⟨rf.toArray⟩, .string ⟨rt.toArray⟩, .int .i64 ra, .int .i64 rr, .int .i64 rk, .int .i64 rh, .string ⟨rc.toArray⟩], vl] w1 (FreePost (freeTo l f sc ra (offL l ⟨ri, rf, rt, ra, rr, rk, rh, rc⟩) (offL l ⟨ri, rf, rt, ra, rr, rk, rh, rc⟩).length) w1) := freeOffers_any w1 a n cap l (HCR.out.below HB1.out) hn3 HC0.out a1 n1 cap1 f (HFR.out.below HB1.out) ⟨ri, rf, rt, ra, rr, rk, rh, rc⟩ hnum w.heap.size vl sc HC1.out (by omega)
      have HFO := Lib.hid hfo
      have hfm := freeTo_mem (l := l) (f := f) (L := sc) (t := ra) (os := offL l ⟨ri, rf, rt, ra, rr, rk, rh, rc⟩) _ (Nat.le_refl _)
      have HFM : Hid (∀ x ∈ freeTo l f sc ra (offL l ⟨ri, rf, rt, ra, rr, rk, rh, rc⟩) (offL l ⟨ri, rf, rt, ra, rr, rk, rh, rc⟩).length, 0 ≤ idxC l x.1.c ∧ 0 ≤ priceBy l ⟨ri, rf, rt, ra, rr, rk, rh, rc⟩ x.1.c ∧ priceBy l ⟨ri, rf, rt, ra, rr, rk, rh, rc⟩ x.1.c ≤ 1000000000000) := fun x hx => ⟨offL_mem HLL.out _ _ (hfm x hx).1, HPK.out _ (hfm x hx).1⟩
      have HKL : Hid (∀ x ∈ freeTo l f sc ra (offL l ⟨ri, rf, rt, ra, rr, rk, rh, rc⟩) (offL l ⟨ri, rf, rt, ra, rr, rk, rh, rc⟩).length, x.1.c.length ≤ 100 ∧ 0 ≤ x.2 ∧ x.2 ≤ 3) := fun x hx => by
        obtain ⟨h1, h2, h3⟩ := hfm x hx
        obtain ⟨i, hi, he⟩ := offL_key HLL.out _ _ h1
        have h9 := offL_len HLL.out ⟨ri, rf, rt, ra, rr, rk, rh, rc⟩
        exact ⟨by rw [he]; exact (HCR.out.each i hi).key, h2, by omega⟩
      have HRR : Hid (refR l f ⟨ri, rf, rt, ra, rr, rk, rh, rc⟩ ⟨so, sc, ss⟩ = ⟨so ++ [sntTo l ⟨ri, rf, rt, ra, rr, rk, rh, rc⟩ ((offL l ⟨ri, rf, rt, ra, rr, rk, rh, rc⟩).length : Int) (freeTo l f sc ra (offL l ⟨ri, rf, rt, ra, rr, rk, rh, rc⟩) (offL l ⟨ri, rf, rt, ra, rr, rk, rh, rc⟩).length) (freeTo l f sc ra (offL l ⟨ri, rf, rt, ra, rr, rk, rh, rc⟩) (offL l ⟨ri, rf, rt, ra, rr, rk, rh, rc⟩).length).length], lastTo ⟨ri, rf, rt, ra, rr, rk, rh, rc⟩ sc (freeTo l f sc ra (offL l ⟨ri, rf, rt, ra, rr, rk, rh, rc⟩) (offL l ⟨ri, rf, rt, ra, rr, rk, rh, rc⟩).length) (freeTo l f sc ra (offL l ⟨ri, rf, rt, ra, rr, rk, rh, rc⟩) (offL l ⟨ri, rf, rt, ra, rr, rk, rh, rc⟩).length).length, ss + (dearTo l ⟨ri, rf, rt, ra, rr, rk, rh, rc⟩ (freeTo l f sc ra (offL l ⟨ri, rf, rt, ra, rr, rk, rh, rc⟩) (offL l ⟨ri, rf, rt, ra, rr, rk, rh, rc⟩).length) (freeTo l f sc ra (offL l ⟨ri, rf, rt, ra, rr, rk, rh, rc⟩) (offL l ⟨ri, rf, rt, ra, rr, rk, rh, rc⟩).length).length - (sntTo l ⟨ri, rf, rt, ra, rr, rk, rh, rc⟩ ((offL l ⟨ri, rf, rt, ra, rr, rk, rh, rc⟩).length : Int) (freeTo l f sc ra (offL l ⟨ri, rf, rt, ra, rr, rk, rh, rc⟩) (offL l ⟨ri, rf, rt, ra, rr, rk, rh, rc⟩).length) (freeTo l f sc ra (offL l ⟨ri, rf, rt, ra, rr, rk, rh, rc⟩) (offL l ⟨ri, rf, rt, ra, rr, rk, rh, rc⟩).length).length).price)⟩) := rfl
      have hol := offL_len HLL.out ⟨ri, rf, rt, ra, rr, rk, rh, rc⟩
      have hfl := freeTo_len l f sc ra (offL l ⟨ri, rf, rt, ra, rr, rk, rh, rc⟩) (offL l ⟨ri, rf, rt, ra, rr, rk, rh, rc⟩).length
      obtain ⟨d9, hrt, -, hd4, hd15⟩ := num_parts hnum
      have h1t : 1 ≤ rt.length := by rw [hrt]; simp
      have h16t : rt.length ≤ 16 := by rw [hrt]; simp; omega
      have HOF : Hid (∀ W, Below w1.heap.size w1 W → Calls Tryz.prog 37 #[.slice a n cap, .string ⟨rt.toArray⟩, .int .i64 ra] W (OfsPost (offL l ⟨ri, rf, rt, ra, rr, rk, rh, rc⟩) W)) := fun W hW => by
        have hlW := HCR.out.below (ext_trans HB1.out hW)
        have := offersFor_any W a n cap l hlW hn3 rt h1t h16t ra (good_row hlW HC0.out)
        rw [hlW.len] at this
        show Calls Tryz.prog 37 _ _ (OfsPost (insL (ltOf cfP) (offTo l (rt.drop 1) ra l.length)) W)
        rw [sort_same (by have := HLL.out; omega) HC0.out (rt.drop 1) ra l.length (Nat.le_refl _) HLL.out, hlW.len]
        exact this
      generalize offL l ⟨ri, rf, rt, ra, rr, rk, rh, rc⟩ = os at HFO HFM HKL HRR hol hfl HOF
      generalize freeTo l f sc ra os os.length = fr at HFO HFM HKL HRR hfl
      clear hfo hfm HPK hrt hd4 hd15 h1t h16t
      have HRA : Hid (w1.rangeAt X 0 [.string ⟨ri.toArray⟩, .string ⟨rf.toArray⟩, .string ⟨rt.toArray⟩, .int .i64 ra, .int .i64 rr, .int .i64 rk, .int .i64 rh, .string ⟨rc.toArray⟩]) := fun j v hj => by rw [Nat.zero_add]; exact HX.out.cell j hj
      as_aux_lemma =>
        go_wp2_with (refine wpList_load_mid rfl 83 (.tmp 12) rfl X 0 rfl [.string ⟨ri.toArray⟩, .string ⟨rf.toArray⟩, .string ⟨rt.toArray⟩, .int .i64 ra, .int .i64 rr, .int .i64 rk, .int .i64 rh, .string ⟨rc.toArray⟩] _ HRA.out Tryz.underlying83 rfl Tryz.rcdSzS ?_)
        refine HFO.out.mono ?_
        rintro e w2 ⟨vf, vt, rfl, hof, hit, hb2'⟩
        have HF2 : Hid (OffRow w2 w.heap.size vf (fr.map (·.1))) := Lib.hid (own_le hof HB1.out.size)
        have HT2 := Lib.hid (own_le hit HB1.out.size)
        have HX2 := Lib.hid (HX.out.below hb2')
        have HO2 := Lib.hid (own_keep HO1.out hb2')
        have HC2 := Lib.hid (own_keep HC1.out hb2')
        have HB2 := Lib.hid (ext_trans HB1.out hb2')
        have HOF2 : Hid (∀ W, Below w2.heap.size w2 W → Calls Tryz.prog 37 #[.slice a n cap, .string ⟨rt.toArray⟩, .int .i64 ra] W (OfsPost os W)) := fun W hW => HOF.out W (ext_trans hb2' hW)
        clear hof hit hb2' HX HO1 HC1 HB1 HFO HOF HRA
        obtain ⟨no, hno⟩ : ∃ no : Int, no = (os.length : Int) := ⟨_, rfl⟩
        rw [← hno] at HRR
        have x0 := HX2.out.cell 0 rfl
        have x2 := HX2.out.cell 2 rfl
        have x3 := HX2.out.cell 3 rfl
        have hXl := HX2.out.lt
        as_aux_lemma =>
          go_upto_region 8 with (fail)
          refine NoS.region_all 0 0 1 11 0 [.val (fun v => (.pointer (some ⟨X, 0, none⟩)) = v), .val (fun v => (.string ⟨ri.toArray⟩) = v), .val (fun v => (.slice a n cap) = v), .val (fun v => (.pointer (some ⟨X, 2, none⟩)) = v), .val (fun v => (.string ⟨rt.toArray⟩) = v), .val (fun v => (.pointer (some ⟨X, 3, none⟩)) = v), .val (fun v => (.int .i64 ra) = v), .val (fun v => ∃ a9 c9, v = .slice a9 os.length c9), .val (fun v => (.int .i64 no) = v), .val (fun v => (.agg #[.string ⟨ri.toArray⟩, .string ⟨#[]⟩, .int .i64 no, .int .i64 0]) = v), .mem (fun W v => ∃ Y, v = .pointer (some ⟨Y, 0, none⟩) ∧ Blk W Y [.string ⟨#[]⟩, .string ⟨#[]⟩, .int .i64 0, .int .i64 0] 102 ∧ w2.heap.size ≤ Y)] [7] [some 35, some 36, some 37, some 38, some 39, some 40, some 41, some 42, some 43, some 44, some 15] rfl (by kernel_rfl) (by kernel_rfl) (by kernel_rfl) (by kernel_rfl) (by kernel_rfl) rfl (by kernel_rfl) rfl rfl (by kernel_rfl) trivial ⟨?_, ?_, ?_, ?_, ?_, ?_, ?_, ?_, ?_, ?_, ?_, trivial⟩ ?_
          · intro a9 w' c9 hk hst hc hfr hdp K hK
            as_aux_lemma =>
              have E12 : a9.eval (.tmp 12) = .pointer (some ⟨X, 0, none⟩) := NoS.fr_list hfr 12 (by kernel_rfl)
              have d12_ := slot_of E12
              refine NoS.gen_pure (v := .pointer (some ⟨X, 0, none⟩)) ?_ (hK _ _ rfl (NoS.Keeps.refl _ _) hst)
              clear hK hdp hfr
              go_simp
          · intro a9 w' c9 hk hst hc hfr hdp K hK
            as_aux_lemma =>
              have E35 : a9.eval (.tmp 35) = .pointer (some ⟨X, 0, none⟩) := Eq.symm (hdp 0 35 _ (by kernel_rfl) (by kernel_rfl) rfl)
              have d35_ := slot_of E35
              have e0 : w'.cell? ⟨X, 0, none⟩ = _ := (hk.cell (p := ⟨X, 0, none⟩) hXl).trans x0
              refine NoS.gen_pure (v := .string ⟨ri.toArray⟩) ?_ (hK _ _ rfl (NoS.Keeps.refl _ _) hst)
              clear hK hdp hfr
              go_simp
          · intro a9 w' c9 hk hst hc hfr hdp K hK
            as_aux_lemma =>
              have E0 : a9.eval (.tmp 0) = .slice a n cap := NoS.fr_list hfr 0 (by kernel_rfl)
              have d0_ := slot_of E0
              refine NoS.gen_pure (v := .slice a n cap) ?_ (hK _ _ rfl (NoS.Keeps.refl _ _) hst)
              clear hK hdp hfr
              go_simp
          · intro a9 w' c9 hk hst hc hfr hdp K hK
            as_aux_lemma =>
              have E12 : a9.eval (.tmp 12) = .pointer (some ⟨X, 0, none⟩) := NoS.fr_list hfr 12 (by kernel_rfl)
              have d12_ := slot_of E12
              refine NoS.gen_pure (v := .pointer (some ⟨X, 2, none⟩)) ?_ (hK _ _ rfl (NoS.Keeps.refl _ _) hst)
              clear hK hdp hfr
              go_simp
          · intro a9 w' c9 hk hst hc hfr hdp K hK
            as_aux_lemma =>
              have E38 : a9.eval (.tmp 38) = .pointer (some ⟨X, 2, none⟩) := Eq.symm (hdp 3 38 _ (by kernel_rfl) (by kernel_rfl) rfl)
              have d38_ := slot_of E38
              have e2 : w'.cell? ⟨X, 2, none⟩ = _ := (hk.cell (p := ⟨X, 2, none⟩) hXl).trans x2
              refine NoS.gen_pure (v := .string ⟨rt.toArray⟩) ?_ (hK _ _ rfl (NoS.Keeps.refl _ _) hst)
              clear hK hdp hfr
              go_simp
          · intro a9 w' c9 hk hst hc hfr hdp K hK
            as_aux_lemma =>
              have E12 : a9.eval (.tmp 12) = .pointer (some ⟨X, 0, none⟩) := NoS.fr_list hfr 12 (by kernel_rfl)
              have d12_ := slot_of E12
              refine NoS.gen_pure (v := .pointer (some ⟨X, 3, none⟩)) ?_ (hK _ _ rfl (NoS.Keeps.refl _ _) hst)
              clear hK hdp hfr
              go_simp
          · intro a9 w' c9 hk hst hc hfr hdp K hK
            as_aux_lemma =>
              have E40 : a9.eval (.tmp 40) = .pointer (some ⟨X, 3, none⟩) := Eq.symm (hdp 5 40 _ (by kernel_rfl) (by kernel_rfl) rfl)
              have d40_ := slot_of E40
              have e3 : w'.cell? ⟨X, 3, none⟩ = _ := (hk.cell (p := ⟨X, 3, none⟩) hXl).trans x3
              refine NoS.gen_pure (v := .int .i64 ra) ?_ (hK _ _ rfl (NoS.Keeps.refl _ _) hst)
              clear hK hdp hfr
              go_simp
          · intro a9 w' c9 hk hst hc hfr hdp K hK
            as_aux_lemma =>
              have E37 : a9.eval (.tmp 37) = .slice a n cap := Eq.symm (hdp 2 37 _ (by kernel_rfl) (by kernel_rfl) rfl)
              have d37_ := slot_of E37
              have E39 : a9.eval (.tmp 39) = .string ⟨rt.toArray⟩ := Eq.symm (hdp 4 39 _ (by kernel_rfl) (by kernel_rfl) rfl)
              have d39_ := slot_of E39
              have E41 : a9.eval (.tmp 41) = .int .i64 ra := Eq.symm (hdp 6 41 _ (by kernel_rfl) (by kernel_rfl) rfl)
              have d41_ := slot_of E41
              refine NoS.gen_call 37 #[.slice a n cap, .string ⟨rt.toArray⟩, .int .i64 ra] ?_ (HOF2.out w' (ext_trans (by exact ext_drew (Below.refl _ _)) (NoS.Keeps.below hk))) ?_
              · clear hK hdp hfr; go_simp
              rintro e w'' ⟨vO, rfl, how, hb9⟩
              obtain ⟨a9, c9, rfl⟩ := own_shape how
              exact ⟨_, rfl, hK _ _ ⟨_, _, rfl⟩ (NoS.Keeps.of_below hb9) trivial⟩
          · intro a9 w' c9 hk hst hc hfr hdp K hK
            as_aux_lemma =>
              obtain ⟨a8, c8, E42⟩ := hdp 7 42 _ (by kernel_rfl) (by kernel_rfl) rfl
              have d42_ := slot_of E42
              rw [hno] at hK
              refine NoS.gen_pure (v := .int .i64 os.length) ?_ (hK _ _ rfl (NoS.Keeps.refl _ _) hst)
              clear hK hdp hfr
              go_simp
          · intro a9 w' c9 hk hst hc hfr hdp K hK
            as_aux_lemma =>
              have E36 : a9.eval (.tmp 36) = .string ⟨ri.toArray⟩ := Eq.symm (hdp 1 36 _ (by kernel_rfl) (by kernel_rfl) rfl)
              have d36_ := slot_of E36
              have E43 : a9.eval (.tmp 43) = .int .i64 no := Eq.symm (hdp 8 43 _ (by kernel_rfl) (by kernel_rfl) rfl)
              have d43_ := slot_of E43
              refine NoS.gen_pure (v := .agg #[.string ⟨ri.toArray⟩, .string ⟨#[]⟩, .int .i64 no, .int .i64 0]) (bd_sal _ _ _ _ _ rfl E36 E43) (hK _ _ rfl (NoS.Keeps.refl _ _) hst)
          · intro a9 w' c9 hk hst hc hfr hdp K hK
            as_aux_lemma =>
              refine NoS.gen_box (p := fun W v => ∃ Y, v = .pointer (some ⟨Y, 0, none⟩) ∧ Blk W Y [.string ⟨#[]⟩, .string ⟨#[]⟩, .int .i64 0, .int .i64 0] 102 ∧ w2.heap.size ≤ Y) #[.string ⟨#[]⟩, .string ⟨#[]⟩, .int .i64 0, .int .i64 0] 102 (by clear hK hdp hfr; go_simp) ?_ hst (fun v w'' h1 h2 h3 => hK v w'' h1 h2 h3)
              intro w9 h9
              exact ⟨_, rfl, (Blk.new w' [.string ⟨#[]⟩, .string ⟨#[]⟩, .int .i64 0, .int .i64 0] 102).below (NoS.Keeps.below h9), (by have h8 := NoS.Keeps.size hk; exact h8)⟩
          intro w9 hk9 _
          rintro _ rfl _ rfl _ rfl _ rfl _ rfl _ rfl _ rfl _ ⟨a9, c9, rfl⟩ _ rfl _ rfl _ h10
          obtain ⟨Y, rfl, hY, hYl⟩ := h10 w9 (NoS.Keeps.refl _ _)
          simp only [NoS.ForVals, Act.put, List.setIfInBounds_toArray, List.set_cons_zero, List.set_cons_succ, List.drop_succ_cons, List.drop_zero]
          have hb9 : Below w2.heap.size w2 w9 := ext_trans (by exact ext_drew (Below.refl _ _)) (NoS.Keeps.below hk9)
          have HTH : Hid (w9.there Y 0 4) := hY.th 4 (by simp)
          have hb3 : Below w2.heap.size w2 (w9.setCells Y 0 [.string ⟨ri.toArray⟩, .string ⟨#[]⟩, .int .i64 no, .int .i64 0]) := hb9.trans (below_setCells hYl _ _ _)
          have HS3 : Hid (SalW w.heap.size w (w9.setCells Y 0 [.string ⟨ri.toArray⟩, .string ⟨#[]⟩, .int .i64 no, .int .i64 0]) vo vf vt vl so fr (lastTo ⟨ri, rf, rt, ra, rr, rk, rh, rc⟩ sc fr 0) X Y ⟨ri, rf, rt, ra, rr, rk, rh, rc⟩ (sntTo l ⟨ri, rf, rt, ra, rr, rk, rh, rc⟩ no fr 0)) :=
            ⟨own_keep HO2.out hb3, own_before HO2.out hYl, (by have h9 := own_keep HF2.out hb3; rw [List.length_map] at h9; exact h9), own_keep HT2.out hb3, own_keep HC2.out hb3, HX2.out.below hb3, (((hY.put 0 _).put 1 _).put 2 _).put 3 _, hBw, Nat.le_trans HB2.out.size hYl, HB2.out.trans (hb3.mono HB2.out.size), Nat.le_trans HB2.out.size hb3.size⟩
          clear hY hb9 hb3 hk9 h10 HO2 HF2 HT2 HC2 HX2 HB2 HOF2 x0 x2 x3 hXl hYl
          as_aux_lemma =>
            go_wp2_with (refine wpList_store_mid rfl 102 (.tmp 15) (.tmp 44) rfl Y 0 #[.string ⟨ri.toArray⟩, .string ⟨#[]⟩, .int .i64 no, .int .i64 0] rfl rfl HTH.out Tryz.sntSz (by simp [Value.oneCell']) ?_; generalize World.setCells w9 Y 0 _ = w3 at HS3 ⊢; refine Hid.out ?_)
            refine Lib.hid ?_
            clear HTH
            obtain ⟨fa, fc, rfl⟩ := own_shape HS3.out.free
            obtain ⟨wo, rfl⟩ : ∃ x : World, x = wr := ⟨_, rfl⟩
            have hf3 : fr.length ≤ 3 := by omega
            as_aux_lemma =>
              go_wp2_with fail
              go_loopw [9, 16, 47] (fun vl vd it wr => ∃ (i : Nat) (cc : List UInt8), i ≤ fr.length ∧ it = .int .i64 i ∧ vd = .int .i64 (dearTo l ⟨ri, rf, rt, ra, rr, rk, rh, rc⟩ fr i) ∧ Hid (SalW w.heap.size w wr vo (.slice fa fr.length fc) vt vl so fr (lastTo ⟨ri, rf, rt, ra, rr, rk, rh, rc⟩ sc fr i) X Y ⟨ri, rf, rt, ra, rr, rk, rh, cc⟩ (sntTo l ⟨ri, rf, rt, ra, rr, rk, rh, rc⟩ no fr i))) (fun _ _ it _ => fr.length - (intOf it).toNat)
              case atStart => exact ⟨0, rc, Nat.zero_le _, rfl, rfl, HS3.out⟩
              case round =>
                clear HS3
                obtain ⟨i, cc, hi, rfl, rfl, HS⟩ := hrel
                have hdb := dear_bound (l := l) (r := ⟨ri, rf, rt, ra, rr, rk, rh, rc⟩) (fr := fr) (P := 1000000000000) (by decide) (fun x hx => (HFM.out x hx).2) i hi
                by_cases hlo : i < fr.length
                case neg =>
                  obtain rfl : i = fr.length := by omega
                  have hloi : ¬ (fr.length : Int) < fr.length := by omega
                  have hpb : 0 ≤ (sntTo l ⟨ri, rf, rt, ra, rr, rk, rh, rc⟩ no fr fr.length).price ∧ (sntTo l ⟨ri, rf, rt, ra, rr, rk, rh, rc⟩ no fr fr.length).price ≤ 1000000000000 := by
                    unfold sntTo
                    split
                    · simp
                    · have hm0 : fr.getD 0 (noOff, 0) ∈ fr := by
                        rw [List.getD_eq_getElem?_getD, List.getElem?_eq_getElem (show 0 < fr.length by omega)]
                        exact List.getElem_mem _
                      exact (HFM.out _ hm0).2
                  have HN : Hid (refAll l f rs (k + 1) = ⟨so ++ [sntTo l ⟨ri, rf, rt, ra, rr, rk, rh, rc⟩ no fr fr.length], lastTo ⟨ri, rf, rt, ra, rr, rk, rh, rc⟩ sc fr fr.length, ss + (dearTo l ⟨ri, rf, rt, ra, rr, rk, rh, rc⟩ fr fr.length - (sntTo l ⟨ri, rf, rt, ra, rr, rk, rh, rc⟩ no fr fr.length).price)⟩) := by show _ = _; rw [HSTEP.out, HRR.out]
                  generalize dearTo l ⟨ri, rf, rt, ra, rr, rk, rh, rc⟩ fr fr.length = qm at HN hdb ⊢
                  generalize sntTo l ⟨ri, rf, rt, ra, rr, rk, rh, rc⟩ no fr fr.length = q at HN HS hpb
                  generalize lastTo ⟨ri, rf, rt, ra, rr, rk, rh, rc⟩ sc fr fr.length = Lc at HN HS
                  obtain ⟨q0, q1, q2, q3⟩ := q
                  simp only at hpb HN
                  clear HSTEP HRR HFM HKL
                  have HY9 : Hid (Blk wr Y [.string ⟨q0.toArray⟩, .string ⟨q1.toArray⟩, .int .i64 q2, .int .i64 q3] 102) := HS.out.y
                  have y0 := HY9.out.cell 0 rfl
                  have y1 := HY9.out.cell 1 rfl
                  have y2 := HY9.out.cell 2 rfl
                  have y3 := HY9.out.cell 3 rfl
                  have HO9 := Lib.hid HS.out.out
                  have HC9 := Lib.hid HS.out.last
                  have HB9 := Lib.hid HS.out.low
                  have hW9 := HS.out.hb
                  obtain ⟨oa, oc, rfl⟩ := own_shape HO9.out
                  have wa3 : IntKind.i64.wrap (qm - q3) = qm - q3 := IntWalk.i64_in _ (by omega)
                  have wa4 : IntKind.i64.wrap (ss + (qm - q3)) = ss + (qm - q3) := IntWalk.i64_in _ (by omega)
                  have HOA : Hid (World.ownsRow (wr.alloc (.cells #[.string ⟨q0.toArray⟩, .string ⟨q1.toArray⟩, .int .i64 q2, .int .i64 q3] 102)) w.heap.size 102 4 (.slice oa so.length oc) so.length ((so.map Snt.cells).flatten)) := World.ownsRow.alloc HO9.out (.cells #[.string ⟨q0.toArray⟩, .string ⟨q1.toArray⟩, .int .i64 q2, .int .i64 q3] 102)
                  have HNA : Hid (Blk (wr.alloc (.cells #[.string ⟨q0.toArray⟩, .string ⟨q1.toArray⟩, .int .i64 q2, .int .i64 q3] 102)) wr.heap.size [.string ⟨q0.toArray⟩, .string ⟨q1.toArray⟩, .int .i64 q2, .int .i64 q3] 102) := Blk.new wr [.string ⟨q0.toArray⟩, .string ⟨q1.toArray⟩, .int .i64 q2, .int .i64 q3] 102
                  have hvw : ∀ b, (Value.slice oa so.length oc).ownBlock = some b → w.heap.size ≤ b := fun b e => (HO9.out.lt b e).1
                  clear HS
                  as_aux_lemma =>
                    go_wp2_with (first | (refine wpList_val rfl (bl_sal0 _ (fun _ => rfl) _ _ 100 ⟨q0.toArray⟩ ⟨q1.toArray⟩ q2 q3 rfl rfl) ?_) | (at_builtin; go_loud (refine wpList_append_own_at _ rfl (.tmp 99) (.tmp 101) 92 rfl w.heap.size 102 i1 _ 4 48 Tryz.underlying92 hi1 hy0 hy1 hy2 rfl (by omega) (.slice oa so.length oc) so.length _ rfl HOA.out ⟨wr.heap.size, 0, none⟩ 1 1 [.string ⟨q0.toArray⟩, .string ⟨q1.toArray⟩, .int .i64 q2, .int .i64 q3] rfl rfl (fun j u hj => by rw [add0]; exact HNA.out.cell j hj) (by simp [Value.oneCell']) (by simp only [maxLen]; omega) (by omega) (by simp; omega) ?_); intro v12 w12 hown12 hgr12 _ hat12; have HQ1 := Lib.hid hown12; have HQ2 := Lib.hid hgr12; clear hown12 hgr12 hat12 HOA HNA; refine Hid.out ?_))
                    refine Lib.hid ?_
                    have HO12 := Lib.hid (snt_snoc (r := ⟨q0, q1, q2, q3⟩) HQ1.out)
                    have hg12 := gb_alloc HQ2.out
                    have HC12 := Lib.hid (own_gb HC9.out hg12 (fun b h9 e => own_types HC9.out HO9.out (by decide) b h9 e))
                    have HB12 : Hid (Below w.heap.size w w12) := HB9.out.trans (upto_grown HQ2.out hW9 hvw)
                    clear HQ1 HQ2 hg12 HO9 HC9 HB9 HY9 y0 y1 y2 y3
                    as_aux_lemma =>
                      go_wp2_with fail
                      go_roundw
                      case rel => exact ⟨k + 1, (⟨so ++ [(⟨q0, q1, q2, q3⟩ : Snt)], Lc, ss + (qm - q3)⟩ : SSt), by omega, by go_num, HN.out.symm, rfl, HO12.out, HC12.out, HB12.out⟩
                      case measure => simp [intOf]; omega
                have hloi : (i : Int) < (fr.length : Int) := by omega
                have hmi : fr.getD i (noOff, 0) ∈ fr := by
                  rw [List.getD_eq_getElem?_getD, List.getElem?_eq_getElem hlo]
                  exact List.getElem_mem _
                have HMI := Lib.hid (HFM.out _ hmi)
                have HKI := Lib.hid (HKL.out _ hmi)
                obtain ⟨g, rfl, hg0, hg1⟩ := own_pos HS.out.free (by omega)
                have hgo : (fr.map (·.1)).getD i noOff = (fr.getD i (noOff, 0)).1 := by simp [List.getD_eq_getElem?_getD, hlo]
                have hil : i < (fr.map (·.1)).length := by rw [List.length_map]; exact hlo
                have c0 := own_field Off.cells (fun _ => rfl) HS.out.free i 0 noOff hil (by omega) rfl
                have c1 := own_field Off.cells (fun _ => rfl) HS.out.free i 1 noOff hil (by omega) rfl
                rw [Nat.add_zero] at c0
                rw [hgo] at c0 c1
                have HDE : Hid (dearTo l ⟨ri, rf, rt, ra, rr, rk, rh, rc⟩ fr (i + 1) = max (dearTo l ⟨ri, rf, rt, ra, rr, rk, rh, rc⟩ fr i) (priceBy l ⟨ri, rf, rt, ra, rr, rk, rh, rc⟩ (fr.getD i (noOff, 0)).1.c)) := rfl
                have HX0 : Hid (i = 0 → fr.getD 0 (noOff, 0) = fr.getD i (noOff, 0)) := fun h => by rw [h]
                obtain ⟨ta, tc, rfl⟩ := own_shape HS.out.tried
                obtain ⟨vt0, rfl, ht0, ht1⟩ := own_pos HS.out.tried (by omega)
                have HTC : Hid (i = 0 → wr.cell? ⟨vt0, 0, none⟩ = some (.int .i64 (fr.getD i (noOff, 0)).2)) := fun h => by
                  rw [HS.out.tried.cellAt 0 (by omega), h]
                  simp [List.getD_eq_getElem?_getD, show 0 < fr.length by omega]
                generalize hox : fr.getD i (noOff, 0) = ox at c0 c1 HDE HX0 HMI HKI HTC
                clear hox hmi hgo
                obtain ⟨⟨oc, op⟩, ti⟩ := ox
                simp only at c0 c1 HDE HMI HKI HTC
                generalize dearTo l ⟨ri, rf, rt, ra, rr, rk, rh, rc⟩ fr i = qm at HDE hdb ⊢
                have hA : Below wr.heap.size wr (wr.alloc (.cells #[.string ⟨oc.toArray⟩, .int .i64 op] 80)) := ext_alloc (Below.refl _ _)
                have HVA : Hid (Blk (wr.alloc (.cells #[.string ⟨oc.toArray⟩, .int .i64 op] 80)) wr.heap.size [.string ⟨oc.toArray⟩, .int .i64 op] 80) := Blk.new wr [.string ⟨oc.toArray⟩, .int .i64 op] 80
                have HSA := Lib.hid (HS.out.below hA)
                have HTA : Hid (i = 0 → (wr.alloc (.cells #[.string ⟨oc.toArray⟩, .int .i64 op] 80)).cell? ⟨vt0, 0, none⟩ = some (.int .i64 ti)) := fun h => (hA.cell (p := ⟨vt0, 0, none⟩) ht1).trans (HTC.out h)
                have hta : vt0 < (wr.alloc (.cells #[.string ⟨oc.toArray⟩, .int .i64 op] 80)).heap.size := Nat.lt_of_lt_of_le ht1 hA.size
                have hvtX : vt0 ≠ X := fun e => own_blk HS.out.tried HS.out.x (by decide) (by rw [e]; rfl)
                have hvtY : vt0 ≠ Y := fun e => own_blk HS.out.tried HS.out.y (by decide) (by rw [e]; rfl)
                have hVX : wr.heap.size ≠ X := by have := HS.out.x.lt; omega
                have hVY : wr.heap.size ≠ Y := by have := HS.out.y.lt; omega
                clear hA HS HTC ht1
                as_aux_lemma =>
                  go_upto_region 13 with (fail)
                  generalize wr.alloc (.cells #[.string ⟨oc.toArray⟩, .int .i64 op] 80) = w5 at HVA HSA HTA hta ⊢
                  generalize wr.heap.size = V at HVA hVX hVY ⊢
                  clear c0 c1
                  have v0 := HVA.out.cell 0 rfl
                  have x7 := HSA.out.x.cell 7 rfl
                  have xf := HSA.out.x.fr
                  have HS6 := Lib.hid (HSA.out.setX oc)
                  have HV6 := Lib.hid (HVA.out.far (p := ⟨X, 7, none⟩) (u := .string ⟨oc.toArray⟩) (Ne.symm hVX))
                  have HT6 : Hid (i = 0 → (w5.setCell ⟨X, 7, none⟩ (.string ⟨oc.toArray⟩)).cell? ⟨vt0, 0, none⟩ = some (.int .i64 ti)) := fun h => (World.cell?_of_block (a := ⟨vt0, 0, none⟩) (Below.heap_setCell _ _ _ _ hvtX)).trans (HTA.out h)
                  have ht6 : vt0 < (w5.setCell ⟨X, 7, none⟩ (.string ⟨oc.toArray⟩)).heap.size := by simpa using hta
                  clear HSA HVA HTA hta
                  as_aux_lemma =>
                    go_upto_region 14 with (fail)
                    generalize w5.setCell ⟨X, 7, none⟩ (.string ⟨oc.toArray⟩) = w6 at HS6 HV6 HT6 ht6 ⊢
                    clear v0 x7 xf
                    have HX6 : Hid (Blk w6 X [.string ⟨ri.toArray⟩, .string ⟨rf.toArray⟩, .string ⟨rt.toArray⟩, .int .i64 ra, .int .i64 rr, .int .i64 rk, .int .i64 rh, .string ⟨oc.toArray⟩] 83) := HS6.out.x
                    have HRA : Hid (w6.rangeAt X 0 [.string ⟨ri.toArray⟩, .string ⟨rf.toArray⟩, .string ⟨rt.toArray⟩, .int .i64 ra, .int .i64 rr, .int .i64 rk, .int .i64 rh, .string ⟨oc.toArray⟩]) := fun j v hj => by rw [Nat.zero_add]; exact HX6.out.cell j hj
                    have hcost : Calls Tryz.prog 40 #[.slice a n cap, .agg #[.string ⟨ri.toArray⟩, .string ⟨rf.toArray⟩, .string ⟨rt.toArray⟩, .int .i64 ra, .int .i64 rr, .int .i64 rk, .int .i64 rh, .string ⟨oc.toArray⟩]] w6 (PriceOfPost (costR l ⟨ri, rf, rt, ra, rr, rk, rh, oc⟩) w6) := costFor_any w6 a n cap l (HCR.out.below HS6.out.low) hcap ⟨ri, rf, rt, ra, rr, rk, rh, oc⟩ e2 (HKI.out.1) (costE_fine HC0.out hnum hmom htalk HMI.out.1)
                    have HPP : Hid ((costR l ⟨ri, rf, rt, ra, rr, rk, rh, oc⟩).1 = priceBy l ⟨ri, rf, rt, ra, rr, rk, rh, rc⟩ oc) := by
                      show (costR l ⟨ri, rf, rt, ra, rr, rk, rh, oc⟩).1 = _
                      unfold costR
                      rw [if_neg (fun h => by
                        have h1 := HMI.out.1
                        have h2 := idxC_empty (by have := HLL.out; omega) HC0.out
                        rw [show oc = [] from h] at h1
                        omega)]
                      rfl
                    have HCO := Lib.hid hcost
                    obtain ⟨hpp0, hpp1⟩ := HMI.out.2
                    have HNX : Hid (i = 0 → sntTo l ⟨ri, rf, rt, ra, rr, rk, rh, rc⟩ no fr (i + 1) = ⟨ri, oc, ti, priceBy l ⟨ri, rf, rt, ra, rr, rk, rh, rc⟩ oc⟩) := fun h => by
                      unfold sntTo
                      rw [if_neg (Nat.succ_ne_zero i), HX0.out h]
                    generalize priceBy l ⟨ri, rf, rt, ra, rr, rk, rh, rc⟩ oc = pp at HPP hpp0 hpp1 HDE HNX
                    generalize costR l ⟨ri, rf, rt, ra, rr, rk, rh, oc⟩ = CV at HCO HPP
                    obtain ⟨cp, cb⟩ := CV
                    obtain rfl : pp = cp := HPP.out.symm
                    clear hcost HPP HX6
                    as_aux_lemma =>
                      go_wp2_with (refine wpList_load_mid rfl 83 (.tmp 12) rfl X 0 rfl [.string ⟨ri.toArray⟩, .string ⟨rf.toArray⟩, .string ⟨rt.toArray⟩, .int .i64 ra, .int .i64 rr, .int .i64 rk, .int .i64 rh, .string ⟨oc.toArray⟩] _ HRA.out Tryz.underlying83 rfl Tryz.rcdSzS ?_)
                      refine HCO.out.mono ?_
                      rintro e w7 ⟨rfl, hb7⟩
                      have HS7 := Lib.hid (HS6.out.below hb7)
                      have HV7 := Lib.hid (HV6.out.below hb7)
                      have HT7 : Hid (i = 0 → w7.cell? ⟨vt0, 0, none⟩ = some (.int .i64 ti)) := fun h => (hb7.cell (p := ⟨vt0, 0, none⟩) ht6).trans (HT6.out h)
                      have ht7 : vt0 < w7.heap.size := Nat.lt_of_lt_of_le ht6 hb7.size
                      clear hb7 HS6 HV6 HT6 ht6 HRA HCO
                      by_cases hi0 : i = 0
                      case neg =>
                        have HL1 : Hid (lastTo ⟨ri, rf, rt, ra, rr, rk, rh, rc⟩ sc fr (i + 1) = lastTo ⟨ri, rf, rt, ra, rr, rk, rh, rc⟩ sc fr i) := by show _ = _; unfold lastTo; rw [if_neg hi0, if_neg (Nat.succ_ne_zero i)]
                        have HN1 : Hid (sntTo l ⟨ri, rf, rt, ra, rr, rk, rh, rc⟩ no fr (i + 1) = sntTo l ⟨ri, rf, rt, ra, rr, rk, rh, rc⟩ no fr i) := by show _ = _; unfold sntTo; rw [if_neg hi0, if_neg (Nat.succ_ne_zero i)]
                        have hi0i : ¬ (i : Int) = 0 := by omega
                        have hi0b : ((i : Int) == 0) = false := beq_eq_false_iff_ne.2 hi0i
                        clear HT7 HV7 HX0
                        as_aux_lemma =>
                          go_wp2_with fail
                          go_roundw
                          case rel => exact ⟨i + 1, oc, by omega, by go_num, by rw [HDE.out], by rw [HL1.out, HN1.out]; exact HS7.out⟩
                          case measure => simp [intOf]; omega
                      subst hi0
                      have t0 := HT7.out rfl
                      have HX1 := Lib.hid (HX0.out rfl)
                      have HL1 : Hid (lastTo ⟨ri, rf, rt, ra, rr, rk, rh, rc⟩ sc fr (0 + 1) = sc ++ [⟨oc, ra, ra + rr + rk⟩]) := by show _ = _; unfold lastTo; rw [if_neg (Nat.succ_ne_zero 0), HX1.out]; rfl
                      have HN1 := Lib.hid (HNX.out rfl)
                      clear HT7 HX0 HX1 HNX
                      as_aux_lemma =>
                        go_upto_region 17 with (fail)
                        have HS8 := Lib.hid (HS7.out.below (ext_drew (Below.refl _ _)))
                        have HV8 := Lib.hid (HV7.out.below (ext_drew (Below.refl _ _)))
                        have t0 : w7.drew.cell? ⟨vt0, 0, none⟩ = some (.int .i64 ti) := t0
                        have v0 := HV8.out.cell 0 rfl
                        have hYs := HS8.out.y
                        have y1 := hYs.cell 1 rfl
                        have y2 := hYs.cell 2 rfl
                        have y3 := hYs.cell 3 rfl
                        have yf := hYs.fr
                        have hfr0 : (0 : Int) < (fr.length : Int) := hloi
                        clear HS7 HV7 ht7 hYs
                        refine region_seqI (S := fun W => W.cell? ⟨V, 0, none⟩ = some (.string ⟨oc.toArray⟩) ∧ W.cell? ⟨vt0, 0, none⟩ = some (.int .i64 ti)) [(true, 0), (true, 1), (true, 2), (true, 3), (true, 4), (true, 5), (true, 6), (false, 7), (true, 8), (false, 9), (true, 10), (false, 11)] (by kernel_rfl) (by kernel_rfl) rfl (by kernel_rfl) ⟨v0, t0⟩ ?_
                        generalize w7.drew = wd at HS8 HV8 t0 v0 y1 y2 y3 yf ⊢
                        simp only [seqOps, List.getD_cons_zero, List.getD_cons_succ]
                        refine seqI_take (v := .pointer (some ⟨V, 0, none⟩)) rfl (fun W hW => by clear hW; go_simp) (fun _ _ _ h => h) ?_
                        simp only [Act.put, List.setIfInBounds_toArray, List.set_cons_zero, List.set_cons_succ]
                        refine seqI_take (v := .string ⟨oc.toArray⟩) rfl (fun W hW => by obtain ⟨m0, m1⟩ := hW; go_simp) (fun _ _ _ h => h) ?_
                        simp only [Act.put, List.setIfInBounds_toArray, List.set_cons_zero, List.set_cons_succ]
                        refine seqI_take (v := .slice (some ⟨vt0, 0, none⟩) fr.length tc) rfl (fun W hW => by clear hW; go_simp) (fun _ _ _ h => h) ?_
                        simp only [Act.put, List.setIfInBounds_toArray, List.set_cons_zero, List.set_cons_succ]
                        refine seqI_take (v := .pointer (some ⟨vt0, 0, none⟩)) rfl (fun W hW => by clear hW; go_simp) (fun _ _ _ h => h) ?_
                        simp only [Act.put, List.setIfInBounds_toArray, List.set_cons_zero, List.set_cons_succ]
                        refine seqI_take (v := .int .i64 ti) rfl (fun W hW => by obtain ⟨m0, m1⟩ := hW; go_simp) (fun _ _ _ h => h) ?_
                        simp only [Act.put, List.setIfInBounds_toArray, List.set_cons_zero, List.set_cons_succ]
                        refine seqI_take (v := .int .i64 pp) rfl (fun W hW => by clear hW; go_simp) (fun _ _ _ h => h) ?_
                        simp only [Act.put, List.setIfInBounds_toArray, List.set_cons_zero, List.set_cons_succ]
                        refine seqI_take (v := .pointer (some ⟨Y, 1, none⟩)) rfl (fun W hW => by clear hW; go_simp) (fun _ _ _ h => h) ?_
                        simp only [Act.put, List.setIfInBounds_toArray, List.set_cons_zero, List.set_cons_succ]
                        have v1 : (wd.setCell ⟨Y, 1, none⟩ (.string ⟨oc.toArray⟩)).cell? ⟨V, 0, none⟩ = some (.string ⟨oc.toArray⟩) := (World.cell?_of_block (a := ⟨V, 0, none⟩) (Below.heap_setCell _ _ _ _ hVY)).trans v0
                        have t1 : (wd.setCell ⟨Y, 1, none⟩ (.string ⟨oc.toArray⟩)).cell? ⟨vt0, 0, none⟩ = some (.int .i64 ti) := (World.cell?_of_block (a := ⟨vt0, 0, none⟩) (Below.heap_setCell _ _ _ _ hvtY)).trans t0
                        have v2 : ((wd.setCell ⟨Y, 1, none⟩ (.string ⟨oc.toArray⟩)).setCell ⟨Y, 2, none⟩ (.int .i64 ti)).cell? ⟨V, 0, none⟩ = some (.string ⟨oc.toArray⟩) := (World.cell?_of_block (a := ⟨V, 0, none⟩) (Below.heap_setCell _ _ _ _ hVY)).trans v1
                        have t2 : ((wd.setCell ⟨Y, 1, none⟩ (.string ⟨oc.toArray⟩)).setCell ⟨Y, 2, none⟩ (.int .i64 ti)).cell? ⟨vt0, 0, none⟩ = some (.int .i64 ti) := (World.cell?_of_block (a := ⟨vt0, 0, none⟩) (Below.heap_setCell _ _ _ _ hvtY)).trans t1
                        have v3 : (((wd.setCell ⟨Y, 1, none⟩ (.string ⟨oc.toArray⟩)).setCell ⟨Y, 2, none⟩ (.int .i64 ti)).setCell ⟨Y, 3, none⟩ (.int .i64 pp)).cell? ⟨V, 0, none⟩ = some (.string ⟨oc.toArray⟩) := (World.cell?_of_block (a := ⟨V, 0, none⟩) (Below.heap_setCell _ _ _ _ hVY)).trans v2
                        have t3 : (((wd.setCell ⟨Y, 1, none⟩ (.string ⟨oc.toArray⟩)).setCell ⟨Y, 2, none⟩ (.int .i64 ti)).setCell ⟨Y, 3, none⟩ (.int .i64 pp)).cell? ⟨vt0, 0, none⟩ = some (.int .i64 ti) := (World.cell?_of_block (a := ⟨vt0, 0, none⟩) (Below.heap_setCell _ _ _ _ hvtY)).trans t2
                        refine seqI_do rfl (wp_skip (w' := (wd.setCell ⟨Y, 1, none⟩ (.string ⟨oc.toArray⟩))) (by go_simp) ⟨⟨v1, t1⟩, ?_⟩)
                        simp only [Act.put, List.setIfInBounds_toArray, List.set_cons_zero, List.set_cons_succ]
                        refine seqI_take (v := .pointer (some ⟨Y, 2, none⟩)) rfl (fun W hW => by clear hW; go_simp) (fun _ _ _ h => h) ?_
                        simp only [Act.put, List.setIfInBounds_toArray, List.set_cons_zero, List.set_cons_succ]
                        refine seqI_do rfl (wp_skip (w' := ((wd.setCell ⟨Y, 1, none⟩ (.string ⟨oc.toArray⟩)).setCell ⟨Y, 2, none⟩ (.int .i64 ti))) (by go_simp) ⟨⟨v2, t2⟩, ?_⟩)
                        simp only [Act.put, List.setIfInBounds_toArray, List.set_cons_zero, List.set_cons_succ]
                        refine seqI_take (v := .pointer (some ⟨Y, 3, none⟩)) rfl (fun W hW => by clear hW; go_simp) (fun _ _ _ h => h) ?_
                        simp only [Act.put, List.setIfInBounds_toArray, List.set_cons_zero, List.set_cons_succ]
                        refine seqI_do rfl (wp_skip (w' := (((wd.setCell ⟨Y, 1, none⟩ (.string ⟨oc.toArray⟩)).setCell ⟨Y, 2, none⟩ (.int .i64 ti)).setCell ⟨Y, 3, none⟩ (.int .i64 pp))) (by go_simp) ⟨⟨v3, t3⟩, ?_⟩)
                        simp only [Act.put, List.setIfInBounds_toArray, List.set_cons_zero, List.set_cons_succ]
                        refine seqI_nil ?_
                        have HS9 : Hid (SalW w.heap.size w (((wd.setCell ⟨Y, 1, none⟩ (.string ⟨oc.toArray⟩)).setCell ⟨Y, 2, none⟩ (.int .i64 ti)).setCell ⟨Y, 3, none⟩ (.int .i64 pp)) vo (.slice (some ⟨g, 0, none⟩) fr.length fc) (.slice (some ⟨vt0, 0, none⟩) fr.length tc) u9 so fr sc X Y ⟨ri, rf, rt, ra, rr, rk, rh, oc⟩ ⟨ri, oc, ti, pp⟩) := HS8.out.setY oc ti pp
                        have HV9 : Hid (Blk (((wd.setCell ⟨Y, 1, none⟩ (.string ⟨oc.toArray⟩)).setCell ⟨Y, 2, none⟩ (.int .i64 ti)).setCell ⟨Y, 3, none⟩ (.int .i64 pp)) V [.string ⟨oc.toArray⟩, .int .i64 op] 80) := ((HV8.out.far (p := ⟨Y, 1, none⟩) (Ne.symm hVY)).far (p := ⟨Y, 2, none⟩) (Ne.symm hVY)).far (p := ⟨Y, 3, none⟩) (Ne.symm hVY)
                        clear HS8 HV8 v1 v2 v3 t1 t2 t3 v0 t0 y1 y2 y3 yf
                        generalize (((wd.setCell ⟨Y, 1, none⟩ (.string ⟨oc.toArray⟩)).setCell ⟨Y, 2, none⟩ (.int .i64 ti)).setCell ⟨Y, 3, none⟩ (.int .i64 pp)) = w9 at HS9 HV9 ⊢
                        have v0 := HV9.out.cell 0 rfl
                        have x3 := HS9.out.x.cell 3 rfl
                        have x4 := HS9.out.x.cell 4 rfl
                        have x5 := HS9.out.x.cell 5 rfl
                        have wa1 : IntKind.i64.wrap (ra + rr) = ra + rr := IntWalk.i64_in _ (by omega)
                        have wa2 : IntKind.i64.wrap (ra + rr + rk) = ra + rr + rk := IntWalk.i64_in _ (by omega)
                        have HCi := Lib.hid HS9.out.last
                        obtain ⟨ca, cc9, rfl⟩ := own_shape HCi.out
                        have HCA : Hid (World.ownsRow (w9.alloc (.cells #[.string ⟨oc.toArray⟩, .int .i64 ra, .int .i64 (ra + rr + rk)] 132)) w.heap.size 132 3 (.slice ca sc.length cc9) sc.length ((sc.map Flt.cells).flatten)) := World.ownsRow.alloc HCi.out (.cells #[.string ⟨oc.toArray⟩, .int .i64 ra, .int .i64 (ra + rr + rk)] 132)
                        have HNC : Hid (Blk (w9.alloc (.cells #[.string ⟨oc.toArray⟩, .int .i64 ra, .int .i64 (ra + rr + rk)] 132)) w9.heap.size [.string ⟨oc.toArray⟩, .int .i64 ra, .int .i64 (ra + rr + rk)] 132) := Blk.new w9 [.string ⟨oc.toArray⟩, .int .i64 ra, .int .i64 (ra + rr + rk)] 132
                        have hWi : w.heap.size ≤ w9.heap.size := HS9.out.hb
                        as_aux_lemma =>
                          go_wp2_with (first | (refine wpList_val rfl (bl_sal1 _ (fun _ => rfl) _ _ 89 ⟨oc.toArray⟩ ra ((ra + rr + rk)) rfl rfl) ?_) | (at_builtin; go_loud (refine wpList_append_own_at _ rfl (.tmp 75) (.tmp 90) 89 rfl w.heap.size 132 i2 _ 3 32 Tryz.underlying89 hi2 hz0 hz1 hz2 rfl (by omega) (.slice ca sc.length cc9) sc.length _ rfl HCA.out ⟨w9.heap.size, 0, none⟩ 1 1 [.string ⟨oc.toArray⟩, .int .i64 ra, .int .i64 (ra + rr + rk)] rfl rfl (fun j u hj => by rw [add0]; exact HNC.out.cell j hj) (by simp [Value.oneCell']) (by simp only [maxLen]; omega) (by omega) (by simp; omega) ?_); intro v11 w11 hown11 hgr11 _ hat11; have HQ1 := Lib.hid hown11; have HQ2 := Lib.hid hgr11; clear hown11 hgr11 hat11 HCA HNC; refine Hid.out ?_))
                          refine Lib.hid ?_
                          have HC11 := Lib.hid (lst_snoc (r := ⟨oc, ra, ra + rr + rk⟩) HQ1.out)
                          have HS11 := Lib.hid (HS9.out.app (gb_alloc HQ2.out) HC11.out)
                          clear HQ1 HQ2 HC11 HCi HS9 HV9 v0 x3 x4 x5
                          as_aux_lemma =>
                            go_wp2_with fail
                            go_roundw
                            case rel => exact ⟨0 + 1, oc, by omega, by go_num, by rw [HDE.out], by rw [HL1.out, HN1.out]; exact HS11.out⟩
                            case measure => simp [intOf]; omega
end Go.Proofs.YtppinnjdaoaddaaGreatDoor

set_option linter.unusedVariables false
set_option linter.unusedSimpArgs false
namespace Go.Proofs.YtppinnjdaoaddaaGreatDoor
open Go.RowKit

set_option maxRecDepth 100000 in
set_option maxHeartbeats 4000000 in
theorem deckFault_any (w : World) (d : Deck) (hd : DeckFine w d) : Calls Tryz.prog 57 #[.agg d.cells.toArray] w (ErrPost (deckErr d) w) := by
  have hlen := hd.row.len
  have hfew := hd.row.few
  have HC0 := Lib.hid (deck_cases d (by omega))
  have HDN : Hid (deckNum d = (isMomB d.from_ && (inB d.setup 0 100000000 && (inB d.least 0 86400000 && inB d.step 1 86400000)))) := rfl
  have HR0 := Lib.hid hd.row
  have hcap := hd.cap
  clear hd
  obtain ⟨df, ds, dl, dp, ra, rn, rc, rates⟩ := d
  simp only at hlen hfew HC0 HDN HR0 hcap
  generalize deckErr ⟨df, ds, dl, dp, ra, rn, rc, rates⟩ = R at HC0 ⊢
  generalize deckNum ⟨df, ds, dl, dp, ra, rn, rc, rates⟩ = G at HC0 HDN
  rw [← hlen] at HC0
  have HLEN := Lib.hid hlen
  clear hlen
  show Calls Tryz.prog 57 #[.agg #[.int .i64 df, .int .i64 ds, .int .i64 dl, .int .i64 dp, .slice ra rn rc]] w _
  go_enter Tryz.func57, Tryz.ntmps57
  go_wp2_with fail
  refine (momF_same df _).mono ?_
  rintro e w1 ⟨rfl, rfl⟩
  generalize isMomB df = g1 at HDN ⊢
  cases g1
  · obtain rfl : R = 1 := HC0.out.1 HDN.out
    clear HC0 HDN
    skip
    as_aux_lemma =>
      go_wp2_with fail
      go_ret
      exact ⟨rfl, ext_alloc (Below.refl _ _)⟩
  skip
  as_aux_lemma =>
    go_wp2_with fail
    refine (in_same ds 0 100000000 _).mono ?_
    rintro e w1 ⟨rfl, rfl⟩
    generalize inB ds 0 100000000 = g2 at HDN ⊢
    cases g2
    · obtain rfl : R = 1 := HC0.out.1 HDN.out
      clear HC0 HDN
      skip
      as_aux_lemma =>
        go_wp2_with fail
        go_ret
        exact ⟨rfl, ext_alloc (Below.refl _ _)⟩
    skip
    as_aux_lemma =>
      go_wp2_with fail
      refine (in_same dl 0 86400000 _).mono ?_
      rintro e w1 ⟨rfl, rfl⟩
      generalize inB dl 0 86400000 = g3 at HDN ⊢
      cases g3
      · obtain rfl : R = 1 := HC0.out.1 HDN.out
        clear HC0 HDN
        skip
        as_aux_lemma =>
          go_wp2_with fail
          go_ret
          exact ⟨rfl, ext_alloc (Below.refl _ _)⟩
      skip
      as_aux_lemma =>
        go_wp2_with fail
        refine (in_same dp 1 86400000 _).mono ?_
        rintro e w1 ⟨rfl, rfl⟩
        generalize inB dp 1 86400000 = g4 at HDN ⊢
        cases g4
        · obtain rfl : R = 1 := HC0.out.1 HDN.out
          clear HC0 HDN
          skip
          as_aux_lemma =>
            go_wp2_with fail
            go_ret
            exact ⟨rfl, ext_alloc (Below.refl _ _)⟩
        have HC := Lib.hid (HC0.out.2 HDN.out)
        have hbig : ¬ (5000 : Int) < rn := by omega
        clear HC0 HDN
        skip
        as_aux_lemma =>
          go_wp2_with fail
          clear hbig
          have HB0 : Hid (Below w.heap.size w (w.alloc (.cells #[.int .i64 df, .int .i64 ds, .int .i64 dl, .int .i64 dp, .slice ra rn rc] 63))) := ext_alloc (Below.refl _ _)
          have b4 : (w.alloc (.cells #[.int .i64 df, .int .i64 ds, .int .i64 dl, .int .i64 dp, .slice ra rn rc] 63)).cell? ⟨w.heap.size, 4, none⟩ = some (.slice ra rn rc) := by go_simp
          have hTl : w.heap.size < (w.alloc (.cells #[.int .i64 df, .int .i64 ds, .int .i64 dl, .int .i64 dp, .slice ra rn rc] 63)).heap.size := by simp
          generalize w.alloc (.cells #[.int .i64 df, .int .i64 ds, .int .i64 dl, .int .i64 dp, .slice ra rn rc] 63) = W0 at HB0 b4 hTl ⊢
          have HR := Lib.hid (HR0.out.below HB0.out)
          clear HR0
          generalize hTT : w.heap.size = T at b4 hTl ⊢
          have HTT := Lib.hid hTT
          clear hTT
          go_loopw [36] (fun it wr => ∃ k : Nat, k ≤ rn ∧ it = .int .i64 k ∧ Hid (∀ j, j < k → rateErr rates j = 0) ∧ Hid (Below W0.heap.size W0 wr)) (fun it _ => rn - (intOf it).toNat)
          case atStart => exact ⟨0, Nat.zero_le _, rfl, fun j hj => by omega, Below.refl _ _⟩
          case round =>
            obtain ⟨k, hk, rfl, HZ, HB⟩ := hrel
            by_cases hlt : k < rn
            case neg =>
              obtain rfl : k = rn := by omega
              obtain rfl : R = 0 := HC.out.2 HZ.out
              clear HC HZ
              as_aux_lemma =>
                go_wp2_with fail
                go_ret
                exact ⟨rfl, ext_trans HB0.out HB.out⟩
            obtain ⟨b, off, rfl, hb, hc⟩ := HR.out.at (by omega)
            have HCC := Lib.hid hc
            obtain ⟨q0, q1, q2⟩ := hc k hlt
            have c0 := (HB.out.cell (p := ⟨b, off + k * 3, none⟩) hb).trans q0
            have c1 := (HB.out.cell (p := ⟨b, off + k * 3 + 1, none⟩) hb).trans q1
            have c2 := (HB.out.cell (p := ⟨b, off + k * 3 + 2, none⟩) hb).trans q2
            have d4 := (HB.out.cell (p := ⟨T, 4, none⟩) hTl).trans b4
            obtain ⟨hpl, hp1, hp2⟩ := HR.out.each k (by rw [← HLEN.out]; exact hlt)
            have HER : Hid (rateErr rates k = if preB (rates.getD k noRate).p = false then 3
              else if 0 < k ∧ Op.bytesLess (rates.getD (k - 1) noRate).p (rates.getD k noRate).p = false then 7
              else if inB (rates.getD k noRate).price 0 100000000 = false then 1
              else if (rates.getD k noRate).closed = true ∧ (rates.getD k noRate).price ≠ 0 then 3
              else 0) := rfl
            have HSTOP := Lib.hid (HC.out.1 k hlt HZ.out)
            have HNX : Hid (rateErr rates k = 0 → ∀ j, j < k + 1 → rateErr rates j = 0) := fun h j hj => by
              rcases Nat.lt_succ_iff_lt_or_eq.1 hj with h9 | rfl
              · exact HZ.out j h9
              · exact h
            have HPV : Hid (0 < k → W0.cell? ⟨b, off + (k - 1) * 3, none⟩ = some (.string ⟨(rates.getD (k - 1) noRate).p.toArray⟩)) := fun h => (HCC.out (k - 1) (by omega)).1
            clear q0 q1 q2 hc HZ HCC HC
            generalize rateErr rates k = X at HER HSTOP HNX
            generalize rates.getD k noRate = r at c0 c1 c2 hpl hp1 hp2 HER
            generalize rates.getD (k - 1) noRate = q at HER HPV
            obtain ⟨rp, rpr, rcl⟩ := r
            obtain ⟨qp, qpr, qcl⟩ := q
            simp only at c0 c1 c2 hpl hp1 hp2 HER HPV
            as_aux_lemma =>
              go_wp2_with fail
              refine (digital_l rp 0 15 _ (by omega)).mono ?_
              rintro e w3 ⟨rfl, hb3⟩
              obtain ⟨qc, qf⟩ := bcell hb3
              have hz3 : wr.heap.size < w3.heap.size := by have := hb3.size; simp at this; omega
              have e0 : w3.cell? ⟨wr.heap.size, 0, none⟩ = some (.string ⟨rp.toArray⟩) := (qc _ 0 (by simp)).trans (by go_simp)
              have e1 : w3.cell? ⟨wr.heap.size, 1, none⟩ = some (.int .i64 rpr) := (qc _ 1 (by simp)).trans (by go_simp)
              have e2 : w3.cell? ⟨wr.heap.size, 2, none⟩ = some (.bool rcl) := (qc _ 2 (by simp)).trans (by go_simp)
              have HB3 : Hid (Below W0.heap.size W0 w3) := ext_trans (ext_alloc HB.out) hb3
              have d4 := (HB3.out.cell (p := ⟨T, 4, none⟩) hTl).trans b4
              generalize wr.heap.size = Tr at e0 e1 e2 hz3 ⊢
              clear qc qf hb3 c0 c1 c2
              have HPB : Hid (preB rp = (digitsB rp 0 15 && !(Lib.hasPrefix rp [48]))) := rfl
              generalize digitsB rp 0 15 = gd at HPB ⊢
              cases gd
              · obtain rfl : X = 3 := by rw [HER.out, if_pos (show preB rp = false from HPB.out)]
                obtain rfl : R = 3 := HSTOP.out (by decide)
                clear HPB
                clear HER HSTOP HNX HPV
                skip
                as_aux_lemma =>
                  go_wp2_with fail
                  go_ret
                  exact ⟨rfl, ext_trans HB0.out HB3.out⟩
              skip
              as_aux_lemma =>
                go_wp2_with fail
                refine (hasPrefix_l rp [48] _).mono ?_
                rintro e w4 ⟨rfl, rfl⟩
                have HPB2 : Hid (preB rp = !(Lib.hasPrefix rp [48])) := HPB.out
                clear HPB
                generalize Lib.hasPrefix rp [48] = gp at HPB2 ⊢
                generalize preB rp = g1 at HER HPB2
                cases gp
                case true =>
                  obtain rfl : X = 3 := by rw [HER.out, if_pos (show g1 = false from HPB2.out)]
                  obtain rfl : R = 3 := HSTOP.out (by decide)
                  clear HPB2
                  clear HER HSTOP HNX HPV
                  skip
                  as_aux_lemma =>
                    go_wp2_with fail
                    go_ret
                    exact ⟨rfl, ext_trans HB0.out HB3.out⟩
                obtain rfl : g1 = true := HPB2.out
                clear HPB2
                have HER1 : Hid (X = if 0 < k ∧ Op.bytesLess qp rp = false then 7
                  else if inB rpr 0 100000000 = false then 1
                  else if rcl = true ∧ rpr ≠ 0 then 3
                  else 0) := by show _ = _; rw [HER.out, if_neg (by decide)]
                clear HER
                by_cases hk0 : k = 0
                · subst hk0
                  have HER2 : Hid (X = if inB rpr 0 100000000 = false then 1
                    else if rcl = true ∧ rpr ≠ 0 then 3
                    else 0) := by show _ = _; rw [HER1.out, if_neg (fun h => by omega)]
                  clear HER1 HPV
                  skip
                  as_aux_lemma =>
                    go_wp2_with fail
                    go_quiet (fail)
                    go_wp2_with fail
                    refine (in_same rpr 0 100000000 _).mono ?_
                    rintro e w4 ⟨rfl, rfl⟩
                    generalize inB rpr 0 100000000 = g2 at HER2 ⊢
                    cases g2
                    · obtain rfl : X = 1 := by rw [HER2.out, if_pos rfl]
                      obtain rfl : R = 1 := HSTOP.out (by decide)
                      clear HER2 HSTOP HNX
                      skip
                      as_aux_lemma =>
                        go_wp2_with fail
                        go_ret
                        exact ⟨rfl, ext_trans HB0.out (ext_drewN HB3.out)⟩
                    cases rcl
                    · skip
                      have HZ2 := Lib.hid (HNX.out (by rw [HER2.out, if_neg (by decide), if_neg (by simp)]))
                      clear HER2 HSTOP HNX
                      skip
                      as_aux_lemma =>
                        go_wp2_with fail
                        go_roundw
                        case rel => exact ⟨0 + 1, by omega, by go_num, HZ2.out, ext_drewN HB3.out⟩
                        case measure => simp [intOf]; omega
                    by_cases hp0 : rpr = 0
                    · have hpb : (rpr != 0) = false := by simp [hp0]
                      have HP0 := Lib.hid hp0
                      clear hp0
                      have HZ2 := Lib.hid (HNX.out (by rw [HER2.out, if_neg (by decide), if_neg (fun h => h.2 HP0.out)]))
                      clear HER2 HSTOP HNX
                      skip
                      as_aux_lemma =>
                        go_wp2_with fail
                        go_roundw
                        case rel => exact ⟨0 + 1, by omega, by go_num, HZ2.out, ext_drewN HB3.out⟩
                        case measure => simp [intOf]; omega
                    have hpb : (rpr != 0) = true := by simp [hp0]
                    obtain rfl : X = 3 := by rw [HER2.out, if_neg (by decide), if_pos ⟨rfl, hp0⟩]
                    obtain rfl : R = 3 := HSTOP.out (by decide)
                    clear hp0
                    clear HER2 HSTOP HNX
                    skip
                    as_aux_lemma =>
                      go_wp2_with fail
                      go_ret
                      exact ⟨rfl, ext_trans HB0.out (ext_drewN HB3.out)⟩
                obtain ⟨j, rfl⟩ : ∃ j, k = j + 1 := ⟨k - 1, by omega⟩
                have p0 := HPV.out (by omega)
                rw [Nat.add_sub_cancel] at p0
                have g0 := (HB3.out.cell (p := ⟨b, off + j * 3, none⟩) hb).trans p0
                have w1 : IntKind.i64.wrap (j : Int) = j := IntWalk.i64_in _ (by omega)
                have w2 : IntKind.i64.wrap ((j : Int) + 1 - 1) = j := by rw [Int.add_sub_cancel]; exact w1
                have w3 : (j : Int) < rn := by omega
                have w4 : (0 : Int) ≤ (j : Int) := by omega
                clear HPV p0 hk0
                cases hls : Op.bytesLess qp rp
                · obtain rfl : X = 7 := by rw [HER1.out, if_pos ⟨by omega, hls⟩]
                  obtain rfl : R = 7 := HSTOP.out (by decide)
                  clear HER1 HSTOP HNX
                  by_cases hxe : rp = qp
                  · subst hxe
                    skip
                    as_aux_lemma =>
                      go_wp2_with fail
                      go_quiet (fail)
                      go_wp2_with fail
                      go_ret
                      exact ⟨rfl, ext_trans HB0.out (ext_drewN HB3.out)⟩
                  · have hx1 : Op.bytesLess rp qp = true := less_total qp rp hls (Ne.symm hxe)
                    skip
                    as_aux_lemma =>
                      go_wp2_with fail
                      go_quiet (fail)
                      go_wp2_with fail
                      go_ret
                      exact ⟨rfl, ext_trans HB0.out (ext_drewN HB3.out)⟩
                have HER2 : Hid (X = if inB rpr 0 100000000 = false then 1
                  else if rcl = true ∧ rpr ≠ 0 then 3
                  else 0) := by show _ = _; rw [HER1.out, if_neg (fun h => by rw [hls] at h; cases h.2)]
                obtain ⟨hx1, hx2⟩ := less_asym hls
                have hx3 : (rp == qp) = false := beq_eq_false_iff_ne.2 (fun e => hx2 e.symm)
                clear HER1 hx2
                skip
                as_aux_lemma =>
                  go_wp2_with fail
                  go_quiet (fail)
                  go_wp2_with fail
                  refine (in_same rpr 0 100000000 _).mono ?_
                  rintro e w4 ⟨rfl, rfl⟩
                  generalize inB rpr 0 100000000 = g2 at HER2 ⊢
                  cases g2
                  · obtain rfl : X = 1 := by rw [HER2.out, if_pos rfl]
                    obtain rfl : R = 1 := HSTOP.out (by decide)
                    clear HER2 HSTOP HNX
                    skip
                    as_aux_lemma =>
                      go_wp2_with fail
                      go_ret
                      exact ⟨rfl, ext_trans HB0.out (ext_drewN HB3.out)⟩
                  cases rcl
                  · skip
                    have HZ2 := Lib.hid (HNX.out (by rw [HER2.out, if_neg (by decide), if_neg (by simp)]))
                    clear HER2 HSTOP HNX
                    skip
                    as_aux_lemma =>
                      go_wp2_with fail
                      go_roundw
                      case rel => exact ⟨j + 1 + 1, by omega, by go_num, HZ2.out, ext_drewN HB3.out⟩
                      case measure => simp [intOf]; omega
                  by_cases hp0 : rpr = 0
                  · have hpb : (rpr != 0) = false := by simp [hp0]
                    have HP0 := Lib.hid hp0
                    clear hp0
                    have HZ2 := Lib.hid (HNX.out (by rw [HER2.out, if_neg (by decide), if_neg (fun h => h.2 HP0.out)]))
                    clear HER2 HSTOP HNX
                    skip
                    as_aux_lemma =>
                      go_wp2_with fail
                      go_roundw
                      case rel => exact ⟨j + 1 + 1, by omega, by go_num, HZ2.out, ext_drewN HB3.out⟩
                      case measure => simp [intOf]; omega
                  have hpb : (rpr != 0) = true := by simp [hp0]
                  obtain rfl : X = 3 := by rw [HER2.out, if_neg (by decide), if_pos ⟨rfl, hp0⟩]
                  obtain rfl : R = 3 := HSTOP.out (by decide)
                  clear hp0
                  clear HER2 HSTOP HNX
                  skip
                  as_aux_lemma =>
                    go_wp2_with fail
                    go_ret
                    exact ⟨rfl, ext_trans HB0.out (ext_drewN HB3.out)⟩
end Go.Proofs.YtppinnjdaoaddaaGreatDoor
