/- What is proved here: lemmas and contracts for the statement, put together out of smaller texts (DkmLr, DkmSm, CarrDeckR, DkmLe). No condition beyond those stated. -/
import Derived.Test.YtacekbbndamkmaaGreatDoorDcPkE
import Derived.Test.YtacekbbndamkmaaGreatDoorDcPkC
import Derived.Test.YtacekbbndamkmaaGreatDoorDcPkA
set_option linter.unusedVariables false
set_option linter.unusedSimpArgs false
namespace Go.Proofs.YtacekbbndamkmaaGreatDoor
open Go.RowKit Go.Lib
open Go.Maps

theorem leastTo_congr {K K' : List (List UInt8)} (h : ∀ s, s ∈ K ↔ s ∈ K') : ∀ n s, leastTo K n s = leastTo K' n s
  | 0, s => rfl
  | n + 1, s => by
    unfold leastTo
    refine findSome_congr fun j _ => ?_
    rw [leastTo_congr h n]
    by_cases h1 : (s = [] ∧ j = 0) ∨ (s ++ [dig j]) ∈ K
    · rw [if_pos h1, if_pos (h1.imp id fun h2 => (h _).1 h2)]
    · rw [if_neg h1, if_neg (fun h3 => h1 (h3.imp id fun h2 => (h _).2 h2))]
theorem leastV_congr {K K' : List (List UInt8)} (h : ∀ s, s ∈ K ↔ s ∈ K') (s : List UInt8) : leastV K s = leastV K' s := leastTo_congr h _ s
theorem mem_once (K : List (List UInt8)) (s : List UInt8) : s ∈ onceL K ↔ s ∈ K := by
  unfold onceL
  rw [mem_compact]
  exact (List.mergeSort_perm K leB).mem_iff
theorem once_len (K : List (List UInt8)) : (onceL K).length ≤ K.length := by
  have tr : ∀ a b c : List UInt8, leB a b = true → leB b c = true → leB a c = true := fun a b c h1 h2 => by simp only [leB, decide_eq_true_eq] at *; exact List.le_trans h1 h2
  have tot : ∀ a b : List UInt8, (leB a b || leB b a) = true := fun a b => by simp only [leB, Bool.or_eq_true, decide_eq_true_eq]; exact List.le_total a b
  refine pigeonT K _ ((compact_strict _ (List.pairwise_mergeSort tr tot K)).imp fun {a b} h e => ?_) fun k hk => (mem_once K k).1 hk
  rw [e] at h
  exact List.lt_irrefl _ h
def PredPost (b : Bool) (W : World) (e : Ending) (w' : World) : Prop := e = .returned (.bool b) ∧ Below W.heap.size W w'
theorem sameP_any (x : Rate) (B : Nat) (cs : List Value) (p : List UInt8) (W : World) (hB : Blk W B cs 51) (h0 : cs[0]? = some (.string ⟨p.toArray⟩)) : Calls Tryz.prog 90 #[.agg (Rate.cells x).toArray, .pointer (some ⟨B, 0, none⟩)] W (PredPost (decide (x.p = p)) W) := by
  have c0 := hB.cell 0 h0
  have hlt := hB.lt
  have hne : B ≠ W.heap.size := by omega
  clear hB h0
  obtain ⟨xp, xq, xl⟩ := x
  show Calls Tryz.prog 90 #[.agg #[.string ⟨xp.toArray⟩, .int .i64 xq, .bool xl], .pointer (some ⟨B, 0, none⟩)] W _
  simp only
  have HDE : Hid ((xp == p) = decide (xp = p)) := by
    show _ = _
    by_cases h : xp = p
    · simp [h]
    · rw [decide_eq_false h]; exact beq_eq_false_iff_ne.2 h
  rw [← HDE.out]
  go_enter Tryz.func90, Tryz.ntmps90
  go_wp2_with fail
  go_ret
  exact ⟨rfl, by first | exact ext_alloc (Below.refl _ _) | exact ext_drew (ext_alloc (Below.refl _ _))⟩
set_option maxRecDepth 100000 in
theorem undec_any (x : Rate) (hx : x.p.length ≤ 100) (B base n : Nat) (v : Value) (K : List (List UInt8)) (W : World) (hB : Blk W B [v] 38) (hK : W.ownsRow base 9 1 v n (K.map encS)) (hn : n ≤ 1000) : Calls Tryz.prog 88 #[.agg (Rate.cells x).toArray, .pointer (some ⟨B, 0, none⟩)] W (PredPost (!(leastV K x.p).isSome) W) := by
  obtain ⟨xp, xq, xl⟩ := x
  show Calls Tryz.prog 88 #[.agg #[.string ⟨xp.toArray⟩, .int .i64 xq, .bool xl], .pointer (some ⟨B, 0, none⟩)] W _
  simp only at hx ⊢
  have hA : Below W.heap.size W (W.alloc (.cells #[.string ⟨xp.toArray⟩, .int .i64 xq, .bool xl] 51)) := ext_alloc (Below.refl _ _)
  have hB1 := hB.below hA
  have c0 := hB1.cell 0 rfl
  have HD := Lib.hid (decided_any (W.alloc (.cells #[.string ⟨xp.toArray⟩, .int .i64 xq, .bool xl] 51)) base n v K (own_keep hK hA) hn xp hx)
  rw [dec_is] at HD
  generalize leastV K xp = o at HD ⊢
  have HA := Lib.hid hA
  have HX : Hid (Blk (W.alloc (.cells #[.string ⟨xp.toArray⟩, .int .i64 xq, .bool xl] 51)) W.heap.size [.string ⟨xp.toArray⟩, .int .i64 xq, .bool xl] 51) := Blk.new W [.string ⟨xp.toArray⟩, .int .i64 xq, .bool xl] 51
  obtain ⟨ka, kc, rfl⟩ := own_shape hK
  clear hB hK hA hB1
  go_enter Tryz.func88, Tryz.ntmps88
  as_aux_lemma =>
    go_upto_region 1 with (fail)
    generalize W.alloc (.cells #[.string ⟨xp.toArray⟩, .int .i64 xq, .bool xl] 51) = W1 at HA HX c0 HD ⊢
    generalize W.heap.size = X at HX ⊢
    have x0 := HX.out.cell 0 rfl
    as_aux_lemma =>
      go_wp2_with fail
      refine HD.out.mono ?_
      rintro e w2 ⟨rfl, hb2⟩
      have HB2 := Lib.hid (ext_trans HA.out hb2)
      clear hb2 HD HA HX c0 x0
      cases o with
      | none =>
        simp only [decS]
        as_aux_lemma =>
          go_wp2_with fail
          go_ret
          exact ⟨rfl, HB2.out⟩
      | some s =>
        simp only [decS]
        as_aux_lemma =>
          go_wp2_with fail
          go_ret
          exact ⟨rfl, HB2.out⟩
set_option maxRecDepth 100000 in
set_option maxHeartbeats 4000000 in
theorem redund_any (x : Rate) (hx : x.p.length ≤ 100) (B base : Nat) (v : Value) (us : List Rate) (W : World) (hB : Blk W B [v] 26) (hu : W.ownsRow base 51 3 v us.length ((us.map Rate.cells).flatten)) (hul : us.length ≤ 100) (hui : RatesIn us) : Calls Tryz.prog 89 #[.agg (Rate.cells x).toArray, .pointer (some ⟨B, 0, none⟩)] W (PredPost (redRB us x) W) := by
  obtain ⟨xp, xq, xl⟩ := x
  show Calls Tryz.prog 89 #[.agg #[.string ⟨xp.toArray⟩, .int .i64 xq, .bool xl], .pointer (some ⟨B, 0, none⟩)] W _
  simp only at hx
  have hA : Below W.heap.size W (W.alloc (.cells #[.string ⟨xp.toArray⟩, .int .i64 xq, .bool xl] 51)) := ext_alloc (Below.refl _ _)
  have hB1 := hB.below hA
  have c0 := hB1.cell 0 rfl
  obtain ⟨ua, uc, rfl, hur, huc⟩ := rate_own hu hul hui
  have HCL := Lib.hid (cloneR_any (W.alloc (.cells #[.string ⟨xp.toArray⟩, .int .i64 xq, .bool xl] 51)) ua us.length uc us (hur.below hA))
  have HA := Lib.hid hA
  have HX : Hid (Blk (W.alloc (.cells #[.string ⟨xp.toArray⟩, .int .i64 xq, .bool xl] 51)) W.heap.size [.string ⟨xp.toArray⟩, .int .i64 xq, .bool xl] 51) := Blk.new W [.string ⟨xp.toArray⟩, .int .i64 xq, .bool xl] 51
  have HRB : Hid (redRB us (⟨xp, xq, xl⟩ : Rate) = (match refTo (othersR us xp) xp (othersR us xp).length with
    | none => false
    | some y => decide (y.price = xq) && decide (y.closed = xl))) := rfl
  generalize redRB us (⟨xp, xq, xl⟩ : Rate) = R at HRB ⊢
  clear hB hu hA hB1 hur
  go_enter Tryz.func89, Tryz.ntmps89
  as_aux_lemma =>
    go_upto_region 1 with (fail)
    generalize W.alloc (.cells #[.string ⟨xp.toArray⟩, .int .i64 xq, .bool xl] 51) = W1 at HA HX c0 HCL ⊢
    generalize hX : W.heap.size = X at HX ⊢
    have hXl := HX.out.lt
    as_aux_lemma =>
      go_wp2_with fail
      refine HCL.out.mono ?_
      rintro e w2 ⟨v2, rfl, ho2, hb2⟩
      have hX2 := HX.out.below hb2
      have hv2 : ∀ b, v2.ownBlock = some b → W1.heap.size ≤ b := fun b e => (ho2.lt b e).1
      have HDL := Lib.hid (delR_any 90 #[.pointer (some ⟨X, 0, none⟩)] (by intro args w; rfl) (fun o => decide (o.p = xp)) w2 W1.heap.size v2 us ho2 hul (fun r hr => (hui r hr).1) (fun W9 y hy hg => sameP_any y X _ xp W9 (hX2.grown hg (fun e => by have := hv2 X e; omega)) rfl))
      have HX2 := Lib.hid hX2
      have HB2 := Lib.hid (ext_trans HA.out hb2)
      have HV2 := Lib.hid hv2
      clear hX2 hv2 ho2 hb2 HCL HX c0
      as_aux_lemma =>
        go_wp2_with fail
        refine HDL.out.mono ?_
        rintro e w3 ⟨v3, rfl, ho3, hg3, hv3⟩
        have hX3 := HX2.out.grown hg3 (fun e => by have := HV2.out X e; omega)
        have hW1 : W.heap.size ≤ W1.heap.size := HA.out.size
        have hB3 : Below W.heap.size W w3 := HB2.out.trans (gb_to_below hg3 HB2.out.size (fun b e => by have := HV2.out b e; omega))
        have e3 : lastR us (fun o => decide (o.p = xp)) = othersR us xp := rfl
        rw [e3] at ho3
        have hol : (othersR us xp).length ≤ 100 := Nat.le_trans (List.length_filter_le _ _) hul
        obtain ⟨oa, oc, rfl, hor, _⟩ := rate_own ho3 hol (fun r hr => hui r (List.mem_filter.1 hr).1)
        have HRF := Lib.hid (rateFor_any w3 oa (othersR us xp).length oc (othersR us xp) xp hor (by omega))
        have HX3 := Lib.hid hX3
        have HB3 := Lib.hid hB3
        generalize refTo (othersR us xp) xp (othersR us xp).length = o at HRF HRB
        generalize (othersR us xp).length = on at HRF ⊢
        have x0 := HX3.out.cell 0 rfl
        clear hX3 hB3 ho3 hg3 hv3 hor HDL HX2 HB2 HV2 e3 hol hW1 HA hui
        as_aux_lemma =>
          go_wp2_with fail
          refine HRF.out.mono ?_
          rintro e w4 ⟨hb4, rfl⟩
          have HX4 := Lib.hid (HX3.out.below hb4)
          have HB4 := Lib.hid (ext_trans HB3.out hb4)
          clear hb4 HX3 HB3 HRF x0
          cases o with
          | none =>
            have hR : R = false := HRB.out
            clear HRB
            have HB5 : Hid (Below W.heap.size W (w4.alloc (.cells #[.string ⟨noRate.p.toArray⟩, .int .i64 noRate.price, .bool noRate.closed] 51))) := ext_alloc HB4.out
            as_aux_lemma =>
              go_wp2_with fail
              go_ret
              subst hR
              exact ⟨rfl, by first | exact HB5.out | exact ext_drew HB5.out⟩
          | some y =>
            obtain ⟨yp, yq, yl⟩ := y
            have HR2 : Hid (R = (decide (yq = xq) && decide (yl = xl))) := HRB.out
            clear HRB
            have hA : Below w4.heap.size w4 (w4.alloc (.cells #[.string ⟨yp.toArray⟩, .int .i64 yq, .bool yl] 51)) := ext_alloc (Below.refl _ _)
            have HX5 := Lib.hid (HX4.out.below hA)
            have HY5 : Hid (Blk (w4.alloc (.cells #[.string ⟨yp.toArray⟩, .int .i64 yq, .bool yl] 51)) w4.heap.size [.string ⟨yp.toArray⟩, .int .i64 yq, .bool yl] 51) := Blk.new w4 [.string ⟨yp.toArray⟩, .int .i64 yq, .bool yl] 51
            have HB5 := Lib.hid (ext_trans HB4.out hA)
            clear hA HX4 HB4
            as_aux_lemma =>
              go_upto_region 3 with (fail)
              generalize w4.alloc (.cells #[.string ⟨yp.toArray⟩, .int .i64 yq, .bool yl] 51) = w5 at HX5 HY5 HB5 ⊢
              generalize w4.heap.size = Y at HY5 ⊢
              have x1 := HX5.out.cell 1 rfl
              have x2 := HX5.out.cell 2 rfl
              have y1 := HY5.out.cell 1 rfl
              have y2 := HY5.out.cell 2 rfl
              by_cases hpq : yq = xq
              · subst hpq
                cases yl <;> cases xl
                all_goals
                  skip
                  as_aux_lemma =>
                    go_wp2_with fail
                    go_ret
                    exact ⟨by rw [HR2.out]; simp, HB5.out⟩
              have hpb : (yq == xq) = false := beq_eq_false_iff_ne.2 hpq
              have hR : R = false := by rw [HR2.out, decide_eq_false hpq, Bool.false_and]
              as_aux_lemma =>
                go_wp2_with fail
                go_ret
                subst hR
                exact ⟨rfl, HB5.out⟩
theorem bl_dlr0 (e : Operand → Value) (he : ∀ v, e (.const v) = v) (o : Oper) (w : World) (i0 : Nat) (a0 : Option Addr) (n0 : Nat) (m0 : Nat) (ho : o.op = .buildSlice 127 1 #[(0, .tmp i0)]) (h0 : e (.tmp i0) = .slice a0 n0 m0) :
   (execOp e o).run Tryz.prog w = .ok (.value (.slice (some ⟨w.heap.size, 0, none⟩) 1 1)) (w.alloc (.cells #[.slice a0 n0 m0] 26)) := by
  unfold execOp
  rw [ho]
  simp only [List.map_toArray, List.map_cons, List.map_nil, h0]
  kernel_rfl
set_option maxRecDepth 100000 in
set_option maxHeartbeats 4000000 in
theorem leastRates_any (w : World) (ra : Option Addr) (rn rc : Nat) (rs : List Rate) (hr : RateRow w ra rn rs) : Calls Tryz.prog 46 #[.slice ra rn rc] w (RatesPost (leastR rs) w) := by
  obtain rfl : rn = rs.length := hr.len
  have hrn := hr.few
  have hri := rate_mem hr
  have hA : Below w.heap.size w (w.alloc (.cells #[.slice ra rs.length rc] 26)) := ext_alloc (Below.refl _ _)
  have hz := Blk.new w [.slice ra rs.length rc] 26
  have HPR := Lib.hid (prefixesR_any (w.alloc (.cells #[.slice ra rs.length rc] 26)) w.heap.size 1 1 [⟨0, 0, 0, 0, ra, rs.length, rc, rs⟩] ⟨rfl, by decide, hz.lt, fun i hi => by
    obtain rfl : i = 0 := by omega
    exact ⟨hz.cell 0 rfl, hr.below hA⟩⟩)
  have HA := Lib.hid hA
  have HR := Lib.hid hr
  have HRI := Lib.hid hri
  have HKE : Hid (leastR rs = (usedR (rs.map (·.p)) rs).filter fun r => !redRB (usedR (rs.map (·.p)) rs) r) := rfl
  generalize leastR rs = R at HKE ⊢
  rw [pre_one] at HPR
  have HKM : Hid (∀ s, s ∈ onceL (rs.map (·.p)) ↔ s ∈ rs.map (·.p)) := mem_once _
  have HKL : Hid ((onceL (rs.map (·.p))).length ≤ 1000) := by
    show _ ≤ _
    have h9 := once_len (rs.map (·.p))
    rw [List.length_map] at h9
    omega
  simp only at HPR HKM HKL
  generalize rs.map (·.p) = K at HPR HKE HKM HKL
  generalize onceL K = K1 at HPR HKM HKL
  have HUS : Hid (lastR rs (fun r => !(leastV K1 r.p).isSome) = usedR K rs) := by
    show _ = _
    unfold lastR usedR
    refine List.filter_congr fun r _ => ?_
    rw [Bool.not_not, leastV_congr HKM.out]
  clear hr hri hA hz HKM
  go_enter Tryz.func46, Tryz.ntmps46
  as_aux_lemma =>
    go_wp2_with (first | (refine wpList_val rfl (bl_dlr0 _ (fun _ => rfl) _ _ 5 ra rs.length rc rfl rfl) ?_))
    generalize w.alloc (.cells #[.slice ra rs.length rc] 26) = w0 at HPR HA ⊢
    generalize w.heap.size = W0 at HPR ⊢
    refine HPR.out.mono ?_
    rintro e w1 ⟨v1, rfl, ho1, hb1⟩
    obtain ⟨ka, kc, rfl⟩ := own_shape ho1
    have hB1 : Below w.heap.size w w1 := ext_trans HA.out hb1
    have hA : Below w1.heap.size w1 (w1.alloc (.cells #[.slice ka K1.length kc] 38)) := ext_alloc (Below.refl _ _)
    have HC2 : Hid (Blk (w1.alloc (.cells #[.slice ka K1.length kc] 38)) w1.heap.size [.slice ka K1.length kc] 38) := Blk.new w1 [.slice ka K1.length kc] 38
    have HO2 := Lib.hid (own_keep ho1 hA)
    have HB2 := Lib.hid (ext_trans hB1 hA)
    clear ho1 hb1 hA hB1 HPR HA
    as_aux_lemma =>
      go_upto_region 2 with (fail)
      generalize w1.alloc (.cells #[.slice ka K1.length kc] 38) = w2 at HC2 HO2 HB2 ⊢
      generalize w1.heap.size = C at HC2 ⊢
      have HCL := Lib.hid (cloneR_any w2 ra rs.length rc rs (HR.out.below HB2.out))
      as_aux_lemma =>
        go_wp2_with fail
        refine HCL.out.mono ?_
        rintro e w3 ⟨v3, rfl, ho3, hb3⟩
        have hC3 := HC2.out.below hb3
        have hO3 := own_keep HO2.out hb3
        have hv3 : ∀ b, v3.ownBlock = some b → w2.heap.size ≤ b := fun b e => (ho3.lt b e).1
        have hCl := HC2.out.lt
        have HDL := Lib.hid (delR_any 88 #[.pointer (some ⟨C, 0, none⟩)] (by intro args w; rfl) (fun r => !(leastV K1 r.p).isSome) w3 w2.heap.size v3 rs ho3 hrn (fun r hr => (HRI.out r hr).1) (fun W9 y hy hg => undec_any y hy C w0.heap.size K1.length (.slice ka K1.length kc) K1 W9 (hC3.grown hg (fun e => by have := hv3 C e; omega)) (own_gb hO3 hg (fun b h1 h2 => own_types hO3 ho3 (by decide) b h1 h2)) HKL.out))
        rw [HUS.out] at HDL
        have HB3 := Lib.hid (ext_trans HB2.out hb3)
        have HV3 := Lib.hid hv3
        clear ho3 hb3 hC3 hO3 hv3 HCL HO2 HC2
        as_aux_lemma =>
          go_wp2_with fail
          refine HDL.out.mono ?_
          rintro e w4 ⟨v4, rfl, ho4, hg4, hv4⟩
          have hul : (usedR K rs).length ≤ 100 := Nat.le_trans (List.length_filter_le _ _) hrn
          have hui : RatesIn (usedR K rs) := fun r hr => HRI.out r (List.mem_filter.1 hr).1
          have hw2 : w.heap.size ≤ w2.heap.size := HB2.out.size
          have hB4 : Below w.heap.size w w4 := HB3.out.trans (gb_to_below hg4 HB3.out.size (fun b e => by have := HV3.out b e; omega))
          generalize usedR K rs = us at ho4 hul hui HKE
          obtain ⟨ua, uc, rfl, hur, _⟩ := rate_own ho4 hul hui
          have hA : Below w4.heap.size w4 (w4.alloc (.cells #[.slice ua us.length uc] 26)) := ext_alloc (Below.refl _ _)
          have HE5 : Hid (Blk (w4.alloc (.cells #[.slice ua us.length uc] 26)) w4.heap.size [.slice ua us.length uc] 26) := Blk.new w4 [.slice ua us.length uc] 26
          have HU5 := Lib.hid (own_keep ho4 hA)
          have HR5 := Lib.hid (hur.below hA)
          have HB5 := Lib.hid (ext_trans hB4 hA)
          have HUI := Lib.hid hui
          clear ho4 hg4 hv4 hA hB4 hur HDL HB3 HV3 HB2 HUS hui
          as_aux_lemma =>
            go_upto_region 3 with (fail)
            generalize w4.alloc (.cells #[.slice ua us.length uc] 26) = w5 at HE5 HU5 HR5 HB5 ⊢
            generalize w4.heap.size = E at HE5 ⊢
            have e0 := HE5.out.cell 0 rfl
            have HCL := Lib.hid (cloneR_any w5 ua us.length uc us HR5.out)
            as_aux_lemma =>
              go_wp2_with fail
              refine HCL.out.mono ?_
              rintro e w6 ⟨v6, rfl, ho6, hb6⟩
              have hE6 := HE5.out.below hb6
              have hU6 := own_keep HU5.out hb6
              have hv6 : ∀ b, v6.ownBlock = some b → w5.heap.size ≤ b := fun b e => (ho6.lt b e).1
              have hEl := HE5.out.lt
              have HDL := Lib.hid (delR_any 89 #[.pointer (some ⟨E, 0, none⟩)] (by intro args w; rfl) (fun r => redRB us r) w6 w5.heap.size v6 us ho6 hul (fun r hr => (HUI.out r hr).1) (fun W9 y hy hg => redund_any y hy E w2.heap.size (.slice ua us.length uc) us W9 (hE6.grown hg (fun e => by have := hv6 E e; omega)) (own_gb hU6 hg (fun b h1 h2 => by have h3 := hv6 b h2; have h4 := (HU5.out.lt b h1).2; omega)) hul HUI.out))
              have HB6 := Lib.hid (ext_trans HB5.out hb6)
              have hw5 : w.heap.size ≤ w5.heap.size := HB5.out.size
              have HV6 := Lib.hid hv6
              clear ho6 hb6 hE6 hU6 hv6 HCL HU5 HE5 e0
              as_aux_lemma =>
                go_wp2_with fail
                refine HDL.out.mono ?_
                rintro e w7 ⟨v7, rfl, ho7, hg7, _⟩
                have HE : Hid (RatesPost R w (.returned v7) w7) := by
                  have e9 : lastR us (fun r => redRB us r) = R := HKE.out.symm
                  rw [e9] at ho7
                  exact ⟨v7, rfl, own_le ho7 hw5, HB6.out.trans (gb_to_below hg7 HB6.out.size (fun b e => by have := HV6.out b e; omega))⟩
                clear ho7 hg7 HDL HB6 HV6
                as_aux_lemma =>
                  go_wp2_with fail
                  go_ret
                  exact HE.out
end Go.Proofs.YtacekbbndamkmaaGreatDoor

set_option linter.unusedVariables false
set_option linter.unusedSimpArgs false
namespace Go.Proofs.YtacekbbndamkmaaGreatDoor
open Go.RowKit
open Go.Maps

/-- More on the rates of a right deck. -/
theorem deck_more {d : Deck} (hl : d.rates.length ≤ 5000) (h : deckErr d = 0) : ∀ r ∈ d.rates, r.p.length ≤ 15 ∧ (r.closed = true → r.price = 0) := by
  have hn : deckNum d = true := by
    cases h9 : deckNum d with
    | true => rfl
    | false => unfold deckErr at h; rw [if_pos h9] at h; cases h
  unfold deckErr at h
  rw [if_neg (by rw [hn]; decide), if_neg (by omega)] at h
  have hz := first_zero h
  intro r hr
  obtain ⟨i, hi, rfl⟩ := List.getElem_of_mem hr
  have h9 := hz i hi
  have hg : d.rates.getD i noRate = d.rates[i] := by rw [List.getD_eq_getElem?_getD, List.getElem?_eq_getElem hi]; rfl
  rw [← hg]
  unfold rateErr at h9
  split at h9
  · cases h9
  · rename_i h1
    split at h9
    · cases h9
    · split at h9
      · cases h9
      · split at h9
        · cases h9
        · rename_i h4
          refine ⟨?_, fun hc => ?_⟩
          · have h1 : preB (d.rates.getD i noRate).p = true := by simpa using h1
            unfold preB digitsB at h1
            simp only [Bool.and_eq_true, decide_eq_true_eq] at h1
            omega
          · by_cases hp : (d.rates.getD i noRate).price = 0
            · exact hp
            · exact absurd ⟨hc, hp⟩ h4
theorem rate_len (cs : List Rate) (s : List UInt8) : BestR cs s (rateOf cs s s.length) := by
  have h := rateTo_best cs s s.length (Nat.le_refl _)
  unfold rateOf
  rw [Nat.min_self]
  cases he : rateTo cs s s.length with
  | none =>
    rw [he] at h
    intro q hq
    cases hx : Lib.hasPrefix s q.p with
    | false => rfl
    | true => rw [h q hq (prefix_len hx)] at hx; cases hx
  | some x =>
    rw [he] at h
    exact ⟨h.1, h.2.1, fun q hq hpq => h.2.2 q hq (prefix_len hpq) hpq⟩
theorem ref_len {cs : List Rate} (h : RSorted cs) (s : List UInt8) : refTo cs s cs.length = rateOf cs s s.length := best_same h (refTo_is cs s) (rate_len cs s)

theorem Blk.set3 {w : World} {B : Nat} {c0 c1 c2 : Value} {ty : TypeId} (h : Blk w B [c0, c1, c2] ty) (v0 v1 v2 : Value) : Blk (w.setCells B 0 [v0, v1, v2]) B [v0, v1, v2] ty := ((h.put 0 v0).put 1 v1).put 2 v2
theorem Blk.set5 {w : World} {B : Nat} {c0 c1 c2 c3 c4 : Value} {ty : TypeId} (h : Blk w B [c0, c1, c2, c3, c4] ty) (v0 v1 v2 v3 v4 : Value) : Blk (w.setCells B 0 [v0, v1, v2, v3, v4]) B [v0, v1, v2, v3, v4] ty := ((((h.put 0 v0).put 1 v1).put 2 v2).put 3 v3).put 4 v4
theorem Blk.farN {w : World} {B G : Nat} {cs : List Value} {ty : TypeId} (h : Blk w B cs ty) (hn : G ≠ B) (vs : List Value) : Blk (w.setCells G 0 vs) B cs ty := h.grown (setCells_gb G vs 0) (fun e => hn (by injection e))
theorem below_put {w W : World} {G : Nat} (hG : w.heap.size ≤ G) (h : Below w.heap.size w W) (vs : List Value) : Below w.heap.size w (W.setCells G 0 vs) := h.trans (below_setCells hG vs W 0)
theorem Blk.range {w : World} {B : Nat} {cs : List Value} {ty : TypeId} (h : Blk w B cs ty) : w.rangeAt B 0 cs := fun j v hj => by rw [Nat.zero_add]; exact h.cell j hj
def lesserV (x y : Rate) (f1 f2 : Bool) : Rate := if (!f2 || (f1 && (y.closed || (!x.closed && decide (x.price ≤ y.price))))) = true then x else y
set_option maxRecDepth 100000 in
set_option maxHeartbeats 4000000 in
theorem lesser_any (x y : Rate) (f1 f2 : Bool) (w : World) : Calls Tryz.prog 60 #[.agg (Rate.cells x).toArray, .agg (Rate.cells y).toArray, .bool f1, .bool f2] w fun e w' => e = .returned (.agg (Rate.cells (lesserV x y f1 f2)).toArray) ∧ Below w.heap.size w w' := by
  obtain ⟨xp, xq, xl⟩ := x
  obtain ⟨yp, yq, yl⟩ := y
  show Calls Tryz.prog 60 #[.agg #[.string ⟨xp.toArray⟩, .int .i64 xq, .bool xl], .agg #[.string ⟨yp.toArray⟩, .int .i64 yq, .bool yl], .bool f1, .bool f2] w _
  have HB : Hid (∀ R : Rate, ∀ W, lesserV ⟨xp, xq, xl⟩ ⟨yp, yq, yl⟩ f1 f2 = R → Below w.heap.size w W → (fun e w' => e = Ending.returned (.agg (Rate.cells (lesserV ⟨xp, xq, xl⟩ ⟨yp, yq, yl⟩ f1 f2)).toArray) ∧ Below w.heap.size w w') (.returned (.agg #[.string ⟨R.p.toArray⟩, .int .i64 R.price, .bool R.closed])) W) := fun R W h1 h2 => ⟨by rw [h1]; rfl, h2⟩
  generalize (fun e w' => e = Ending.returned (.agg (Rate.cells (lesserV ⟨xp, xq, xl⟩ ⟨yp, yq, yl⟩ f1 f2)).toArray) ∧ Below w.heap.size w w') = Q at HB ⊢
  have hA : Below w.heap.size w (((w.alloc (.cells #[.string ⟨xp.toArray⟩, .int .i64 xq, .bool xl] 51)).alloc (.cells #[.string ⟨yp.toArray⟩, .int .i64 yq, .bool yl] 51)).alloc (.cells #[.string ⟨#[]⟩, .int .i64 0, .bool false] 51)) := ext_alloc (ext_alloc (ext_alloc (Below.refl _ _)))
  have HX : Hid (Blk (((w.alloc (.cells #[.string ⟨xp.toArray⟩, .int .i64 xq, .bool xl] 51)).alloc (.cells #[.string ⟨yp.toArray⟩, .int .i64 yq, .bool yl] 51)).alloc (.cells #[.string ⟨#[]⟩, .int .i64 0, .bool false] 51)) w.heap.size [.string ⟨xp.toArray⟩, .int .i64 xq, .bool xl] 51) := ((Blk.new w _ _).alloc _).alloc _
  have HY : Hid (Blk (((w.alloc (.cells #[.string ⟨xp.toArray⟩, .int .i64 xq, .bool xl] 51)).alloc (.cells #[.string ⟨yp.toArray⟩, .int .i64 yq, .bool yl] 51)).alloc (.cells #[.string ⟨#[]⟩, .int .i64 0, .bool false] 51)) (w.heap.size + 1) [.string ⟨yp.toArray⟩, .int .i64 yq, .bool yl] 51) := by
    have := Blk.new (w.alloc (.cells #[.string ⟨xp.toArray⟩, .int .i64 xq, .bool xl] 51)) [.string ⟨yp.toArray⟩, .int .i64 yq, .bool yl] 51
    rw [show (w.alloc (.cells #[.string ⟨xp.toArray⟩, .int .i64 xq, .bool xl] 51)).heap.size = w.heap.size + 1 by simp] at this
    exact this.alloc _
  have HZ : Hid (Blk (((w.alloc (.cells #[.string ⟨xp.toArray⟩, .int .i64 xq, .bool xl] 51)).alloc (.cells #[.string ⟨yp.toArray⟩, .int .i64 yq, .bool yl] 51)).alloc (.cells #[.string ⟨#[]⟩, .int .i64 0, .bool false] 51)) (w.heap.size + 1 + 1) [.string ⟨#[]⟩, .int .i64 0, .bool false] 51) := by
    have := Blk.new ((w.alloc (.cells #[.string ⟨xp.toArray⟩, .int .i64 xq, .bool xl] 51)).alloc (.cells #[.string ⟨yp.toArray⟩, .int .i64 yq, .bool yl] 51)) [.string ⟨#[]⟩, .int .i64 0, .bool false] 51
    rw [show ((w.alloc (.cells #[.string ⟨xp.toArray⟩, .int .i64 xq, .bool xl] 51)).alloc (.cells #[.string ⟨yp.toArray⟩, .int .i64 yq, .bool yl] 51)).heap.size = w.heap.size + 1 + 1 by simp] at this
    exact this
  have HA := Lib.hid hA
  clear hA
  go_enter Tryz.func60, Tryz.ntmps60
  as_aux_lemma =>
    go_upto_region 1 with (fail)
    generalize World.alloc (World.alloc (World.alloc w _) _) _ = w1 at HX HY HZ HA ⊢
    have hF : w.heap.size ≤ w.heap.size + 1 + 1 := by omega
    obtain ⟨X, hX⟩ : ∃ X, X = w.heap.size := ⟨_, rfl⟩
    obtain ⟨Y, hY⟩ : ∃ Y, Y = w.heap.size + 1 := ⟨_, rfl⟩
    obtain ⟨F, hFF⟩ : ∃ F, F = w.heap.size + 1 + 1 := ⟨_, rfl⟩
    rw [← hFF] at HZ hF
    rw [← hY] at HY
    rw [← hX] at HX
    rw [← hY] at hFF
    rw [← hX] at hY
    have hFY : F ≠ Y := by omega
    have hFX : F ≠ X := by omega
    simp only [← hFF, ← hY, ← hX]
    clear hX hY hFF
    have x0 := HX.out.cell 0 rfl
    have x1 := HX.out.cell 1 rfl
    have x2 := HX.out.cell 2 rfl
    have y0 := HY.out.cell 0 rfl
    have y1 := HY.out.cell 1 rfl
    have y2 := HY.out.cell 2 rfl
    have z0 := HZ.out.cell 0 rfl
    have z1 := HZ.out.cell 1 rfl
    have z2 := HZ.out.cell 2 rfl
    have zf := HZ.out.fr
    clear x0 y0 z0 z1 z2 zf
    have HTH : Hid (w1.there F 0 3) := HZ.out.th 3 (by decide)
    cases f2
    · skip
      have HRA := Lib.hid HX.out.range
      have HF9 := Lib.hid (HB.out ⟨xp, xq, xl⟩ (w1.setCells F 0 [.string ⟨xp.toArray⟩, .int .i64 xq, .bool xl]) (by rfl) (below_put hF HA.out _))
      have HR9 := Lib.hid (HZ.out.set3 (.string ⟨xp.toArray⟩) (.int .i64 xq) (.bool xl))
      as_aux_lemma =>
        go_upto_region 2 with (fail)
        as_aux_lemma =>
          go_wp2_with (first | (refine wpList_load_mid rfl 51 (.tmp 4) rfl X 0 rfl [.string ⟨xp.toArray⟩, .int .i64 xq, .bool xl] _ HRA.out Tryz.underlying51 rfl Tryz.rateSz ?_) | (refine wpList_store_mid rfl 51 (.tmp 8) (.tmp 30) rfl F 0 #[.string ⟨xp.toArray⟩, .int .i64 xq, .bool xl] rfl rfl HTH.out Tryz.rateSz (by simp [Value.oneCell']) ?_; generalize World.setCells w1 F 0 _ = W9 at HF9 HR9 ⊢))
          refine bodyPost_ret (v := .agg #[.string ⟨xp.toArray⟩, .int .i64 xq, .bool xl]) ?_ rfl HF9.out
          exact results_cell1 (t := 8) (by rfl) _ _ _ Tryz.isAgg51 Tryz.sizeOf51 (by rfl) [.string ⟨xp.toArray⟩, .int .i64 xq, .bool xl] rfl (fun j v hj => HR9.out.cell j hj)
    cases f1
    · skip
      have HRA := Lib.hid HY.out.range
      have HF9 := Lib.hid (HB.out ⟨yp, yq, yl⟩ (w1.setCells F 0 [.string ⟨yp.toArray⟩, .int .i64 yq, .bool yl]) (by rfl) (below_put hF HA.out _))
      have HR9 := Lib.hid (HZ.out.set3 (.string ⟨yp.toArray⟩) (.int .i64 yq) (.bool yl))
      as_aux_lemma =>
        go_upto_region 3 with (fail)
        as_aux_lemma =>
          go_wp2_with (first | (refine wpList_load_mid rfl 51 (.tmp 5) rfl Y 0 rfl [.string ⟨yp.toArray⟩, .int .i64 yq, .bool yl] _ HRA.out Tryz.underlying51 rfl Tryz.rateSz ?_) | (refine wpList_store_mid rfl 51 (.tmp 8) (.tmp 31) rfl F 0 #[.string ⟨yp.toArray⟩, .int .i64 yq, .bool yl] rfl rfl HTH.out Tryz.rateSz (by simp [Value.oneCell']) ?_; generalize World.setCells w1 F 0 _ = W9 at HF9 HR9 ⊢))
          refine bodyPost_ret (v := .agg #[.string ⟨yp.toArray⟩, .int .i64 yq, .bool yl]) ?_ rfl HF9.out
          exact results_cell1 (t := 8) (by rfl) _ _ _ Tryz.isAgg51 Tryz.sizeOf51 (by rfl) [.string ⟨yp.toArray⟩, .int .i64 yq, .bool yl] rfl (fun j v hj => HR9.out.cell j hj)
    cases yl
    case true =>
      have HRA := Lib.hid HX.out.range
      have HF9 := Lib.hid (HB.out ⟨xp, xq, xl⟩ (w1.setCells F 0 [.string ⟨xp.toArray⟩, .int .i64 xq, .bool xl]) (by rfl) (below_put hF HA.out _))
      have HR9 := Lib.hid (HZ.out.set3 (.string ⟨xp.toArray⟩) (.int .i64 xq) (.bool xl))
      as_aux_lemma =>
        go_upto_region 2 with (fail)
        as_aux_lemma =>
          go_wp2_with (first | (refine wpList_load_mid rfl 51 (.tmp 4) rfl X 0 rfl [.string ⟨xp.toArray⟩, .int .i64 xq, .bool xl] _ HRA.out Tryz.underlying51 rfl Tryz.rateSz ?_) | (refine wpList_store_mid rfl 51 (.tmp 8) (.tmp 30) rfl F 0 #[.string ⟨xp.toArray⟩, .int .i64 xq, .bool xl] rfl rfl HTH.out Tryz.rateSz (by simp [Value.oneCell']) ?_; generalize World.setCells w1 F 0 _ = W9 at HF9 HR9 ⊢))
          refine bodyPost_ret (v := .agg #[.string ⟨xp.toArray⟩, .int .i64 xq, .bool xl]) ?_ rfl HF9.out
          exact results_cell1 (t := 8) (by rfl) _ _ _ Tryz.isAgg51 Tryz.sizeOf51 (by rfl) [.string ⟨xp.toArray⟩, .int .i64 xq, .bool xl] rfl (fun j v hj => HR9.out.cell j hj)
    cases xl
    case true =>
      have HRA := Lib.hid HY.out.range
      have HF9 := Lib.hid (HB.out ⟨yp, yq, false⟩ (w1.setCells F 0 [.string ⟨yp.toArray⟩, .int .i64 yq, .bool false]) (by rfl) (below_put hF HA.out _))
      have HR9 := Lib.hid (HZ.out.set3 (.string ⟨yp.toArray⟩) (.int .i64 yq) (.bool false))
      as_aux_lemma =>
        go_upto_region 3 with (fail)
        as_aux_lemma =>
          go_wp2_with (first | (refine wpList_load_mid rfl 51 (.tmp 5) rfl Y 0 rfl [.string ⟨yp.toArray⟩, .int .i64 yq, .bool false] _ HRA.out Tryz.underlying51 rfl Tryz.rateSz ?_) | (refine wpList_store_mid rfl 51 (.tmp 8) (.tmp 31) rfl F 0 #[.string ⟨yp.toArray⟩, .int .i64 yq, .bool false] rfl rfl HTH.out Tryz.rateSz (by simp [Value.oneCell']) ?_; generalize World.setCells w1 F 0 _ = W9 at HF9 HR9 ⊢))
          refine bodyPost_ret (v := .agg #[.string ⟨yp.toArray⟩, .int .i64 yq, .bool false]) ?_ rfl HF9.out
          exact results_cell1 (t := 8) (by rfl) _ _ _ Tryz.isAgg51 Tryz.sizeOf51 (by rfl) [.string ⟨yp.toArray⟩, .int .i64 yq, .bool false] rfl (fun j v hj => HR9.out.cell j hj)
    by_cases hq : xq ≤ yq
    · skip
      have HRA := Lib.hid HX.out.range
      have HF9 := Lib.hid (HB.out ⟨xp, xq, false⟩ (w1.setCells F 0 [.string ⟨xp.toArray⟩, .int .i64 xq, .bool false]) (by unfold lesserV; simp [hq]) (below_put hF HA.out _))
      have HR9 := Lib.hid (HZ.out.set3 (.string ⟨xp.toArray⟩) (.int .i64 xq) (.bool false))
      as_aux_lemma =>
        go_upto_region 2 with (fail)
        as_aux_lemma =>
          go_wp2_with (first | (refine wpList_load_mid rfl 51 (.tmp 4) rfl X 0 rfl [.string ⟨xp.toArray⟩, .int .i64 xq, .bool false] _ HRA.out Tryz.underlying51 rfl Tryz.rateSz ?_) | (refine wpList_store_mid rfl 51 (.tmp 8) (.tmp 30) rfl F 0 #[.string ⟨xp.toArray⟩, .int .i64 xq, .bool false] rfl rfl HTH.out Tryz.rateSz (by simp [Value.oneCell']) ?_; generalize World.setCells w1 F 0 _ = W9 at HF9 HR9 ⊢))
          refine bodyPost_ret (v := .agg #[.string ⟨xp.toArray⟩, .int .i64 xq, .bool false]) ?_ rfl HF9.out
          exact results_cell1 (t := 8) (by rfl) _ _ _ Tryz.isAgg51 Tryz.sizeOf51 (by rfl) [.string ⟨xp.toArray⟩, .int .i64 xq, .bool false] rfl (fun j v hj => HR9.out.cell j hj)
    have HRA := Lib.hid HY.out.range
    have HF9 := Lib.hid (HB.out ⟨yp, yq, false⟩ (w1.setCells F 0 [.string ⟨yp.toArray⟩, .int .i64 yq, .bool false]) (by unfold lesserV; simp [hq]) (below_put hF HA.out _))
    have HR9 := Lib.hid (HZ.out.set3 (.string ⟨yp.toArray⟩) (.int .i64 yq) (.bool false))
    as_aux_lemma =>
      go_upto_region 3 with (fail)
      as_aux_lemma =>
        go_wp2_with (first | (refine wpList_load_mid rfl 51 (.tmp 5) rfl Y 0 rfl [.string ⟨yp.toArray⟩, .int .i64 yq, .bool false] _ HRA.out Tryz.underlying51 rfl Tryz.rateSz ?_) | (refine wpList_store_mid rfl 51 (.tmp 8) (.tmp 31) rfl F 0 #[.string ⟨yp.toArray⟩, .int .i64 yq, .bool false] rfl rfl HTH.out Tryz.rateSz (by simp [Value.oneCell']) ?_; generalize World.setCells w1 F 0 _ = W9 at HF9 HR9 ⊢))
        refine bodyPost_ret (v := .agg #[.string ⟨yp.toArray⟩, .int .i64 yq, .bool false]) ?_ rfl HF9.out
        exact results_cell1 (t := 8) (by rfl) _ _ _ Tryz.isAgg51 Tryz.sizeOf51 (by rfl) [.string ⟨yp.toArray⟩, .int .i64 yq, .bool false] rfl (fun j v hj => HR9.out.cell j hj)
end Go.Proofs.YtacekbbndamkmaaGreatDoor

set_option linter.unusedVariables false
set_option linter.unusedSimpArgs false
namespace Go.Proofs.YtacekbbndamkmaaGreatDoor
open Go.RowKit

set_option maxRecDepth 100000 in
set_option maxHeartbeats 4000000 in
theorem deckFault_any (w : World) (d : Deck) (hd : DeckFine w d) : Calls Tryz.prog 7 #[.agg d.cells.toArray] w (ErrPost (deckErr d) w) := by
  have hlen := hd.row.len
  have hfew := hd.row.few
  have HC0 := Lib.hid (deck_cases d (by omega))
  have HDN : Hid (deckNum d = (isMomB d.from_ && (inB d.setup 0 100000000 && (inB d.least 0 86400000 && inB d.step 1 86400000)))) := rfl
  have HR0 := Lib.hid hd.row
  have hcap := hd.cap
  clear hd
  obtain ⟨df, ds, dl, dp, ra, rn, rc, rates⟩ := d
  simp only at hlen hfew HC0 HDN HR0 hcap
  generalize deckErr ⟨df, ds, dl, dp, ra, rn, rc, rates⟩ = R at HC0 ⊢
  generalize deckNum ⟨df, ds, dl, dp, ra, rn, rc, rates⟩ = G at HC0 HDN
  rw [← hlen] at HC0
  have HLEN := Lib.hid hlen
  clear hlen
  show Calls Tryz.prog 7 #[.agg #[.int .i64 df, .int .i64 ds, .int .i64 dl, .int .i64 dp, .slice ra rn rc]] w _
  go_enter Tryz.func7, Tryz.ntmps7
  go_wp2_with fail
  refine (momF_same df _).mono ?_
  rintro e w1 ⟨rfl, rfl⟩
  generalize isMomB df = g1 at HDN ⊢
  cases g1
  · obtain rfl : R = 1 := HC0.out.1 HDN.out
    clear HC0 HDN
    skip
    as_aux_lemma =>
      go_wp2_with fail
      go_ret
      exact ⟨rfl, ext_alloc (Below.refl _ _)⟩
  skip
  as_aux_lemma =>
    go_wp2_with fail
    refine (in_same ds 0 100000000 _).mono ?_
    rintro e w1 ⟨rfl, rfl⟩
    generalize inB ds 0 100000000 = g2 at HDN ⊢
    cases g2
    · obtain rfl : R = 1 := HC0.out.1 HDN.out
      clear HC0 HDN
      skip
      as_aux_lemma =>
        go_wp2_with fail
        go_ret
        exact ⟨rfl, ext_alloc (Below.refl _ _)⟩
    skip
    as_aux_lemma =>
      go_wp2_with fail
      refine (in_same dl 0 86400000 _).mono ?_
      rintro e w1 ⟨rfl, rfl⟩
      generalize inB dl 0 86400000 = g3 at HDN ⊢
      cases g3
      · obtain rfl : R = 1 := HC0.out.1 HDN.out
        clear HC0 HDN
        skip
        as_aux_lemma =>
          go_wp2_with fail
          go_ret
          exact ⟨rfl, ext_alloc (Below.refl _ _)⟩
      skip
      as_aux_lemma =>
        go_wp2_with fail
        refine (in_same dp 1 86400000 _).mono ?_
        rintro e w1 ⟨rfl, rfl⟩
        generalize inB dp 1 86400000 = g4 at HDN ⊢
        cases g4
        · obtain rfl : R = 1 := HC0.out.1 HDN.out
          clear HC0 HDN
          skip
          as_aux_lemma =>
            go_wp2_with fail
            go_ret
            exact ⟨rfl, ext_alloc (Below.refl _ _)⟩
        have HC := Lib.hid (HC0.out.2 HDN.out)
        have hbig : ¬ (5000 : Int) < rn := by omega
        clear HC0 HDN
        skip
        as_aux_lemma =>
          go_wp2_with fail
          clear hbig
          have HB0 : Hid (Below w.heap.size w (w.alloc (.cells #[.int .i64 df, .int .i64 ds, .int .i64 dl, .int .i64 dp, .slice ra rn rc] 28))) := ext_alloc (Below.refl _ _)
          have b4 : (w.alloc (.cells #[.int .i64 df, .int .i64 ds, .int .i64 dl, .int .i64 dp, .slice ra rn rc] 28)).cell? ⟨w.heap.size, 4, none⟩ = some (.slice ra rn rc) := by go_simp
          have hTl : w.heap.size < (w.alloc (.cells #[.int .i64 df, .int .i64 ds, .int .i64 dl, .int .i64 dp, .slice ra rn rc] 28)).heap.size := by simp
          generalize w.alloc (.cells #[.int .i64 df, .int .i64 ds, .int .i64 dl, .int .i64 dp, .slice ra rn rc] 28) = W0 at HB0 b4 hTl ⊢
          have HR := Lib.hid (HR0.out.below HB0.out)
          clear HR0
          generalize hTT : w.heap.size = T at b4 hTl ⊢
          have HTT := Lib.hid hTT
          clear hTT
          go_loopw [36] (fun it wr => ∃ k : Nat, k ≤ rn ∧ it = .int .i64 k ∧ Hid (∀ j, j < k → rateErr rates j = 0) ∧ Hid (Below W0.heap.size W0 wr)) (fun it _ => rn - (intOf it).toNat)
          case atStart => exact ⟨0, Nat.zero_le _, rfl, fun j hj => by omega, Below.refl _ _⟩
          case round =>
            obtain ⟨k, hk, rfl, HZ, HB⟩ := hrel
            by_cases hlt : k < rn
            case neg =>
              obtain rfl : k = rn := by omega
              obtain rfl : R = 0 := HC.out.2 HZ.out
              clear HC HZ
              as_aux_lemma =>
                go_wp2_with fail
                go_ret
                exact ⟨rfl, ext_trans HB0.out HB.out⟩
            obtain ⟨b, off, rfl, hb, hc⟩ := HR.out.at (by omega)
            have HCC := Lib.hid hc
            obtain ⟨q0, q1, q2⟩ := hc k hlt
            have c0 := (HB.out.cell (p := ⟨b, off + k * 3, none⟩) hb).trans q0
            have c1 := (HB.out.cell (p := ⟨b, off + k * 3 + 1, none⟩) hb).trans q1
            have c2 := (HB.out.cell (p := ⟨b, off + k * 3 + 2, none⟩) hb).trans q2
            have d4 := (HB.out.cell (p := ⟨T, 4, none⟩) hTl).trans b4
            obtain ⟨hpl, hp1, hp2⟩ := HR.out.each k (by rw [← HLEN.out]; exact hlt)
            have HER : Hid (rateErr rates k = if preB (rates.getD k noRate).p = false then 3
              else if 0 < k ∧ Op.bytesLess (rates.getD (k - 1) noRate).p (rates.getD k noRate).p = false then 7
              else if inB (rates.getD k noRate).price 0 100000000 = false then 1
              else if (rates.getD k noRate).closed = true ∧ (rates.getD k noRate).price ≠ 0 then 3
              else 0) := rfl
            have HSTOP := Lib.hid (HC.out.1 k hlt HZ.out)
            have HNX : Hid (rateErr rates k = 0 → ∀ j, j < k + 1 → rateErr rates j = 0) := fun h j hj => by
              rcases Nat.lt_succ_iff_lt_or_eq.1 hj with h9 | rfl
              · exact HZ.out j h9
              · exact h
            have HPV : Hid (0 < k → W0.cell? ⟨b, off + (k - 1) * 3, none⟩ = some (.string ⟨(rates.getD (k - 1) noRate).p.toArray⟩)) := fun h => (HCC.out (k - 1) (by omega)).1
            clear q0 q1 q2 hc HZ HCC HC
            generalize rateErr rates k = X at HER HSTOP HNX
            generalize rates.getD k noRate = r at c0 c1 c2 hpl hp1 hp2 HER
            generalize rates.getD (k - 1) noRate = q at HER HPV
            obtain ⟨rp, rpr, rcl⟩ := r
            obtain ⟨qp, qpr, qcl⟩ := q
            simp only at c0 c1 c2 hpl hp1 hp2 HER HPV
            as_aux_lemma =>
              go_wp2_with fail
              refine (digital_l rp 0 15 _ (by omega)).mono ?_
              rintro e w3 ⟨rfl, hb3⟩
              obtain ⟨qc, qf⟩ := bcell hb3
              have hz3 : wr.heap.size < w3.heap.size := by have := hb3.size; simp at this; omega
              have e0 : w3.cell? ⟨wr.heap.size, 0, none⟩ = some (.string ⟨rp.toArray⟩) := (qc _ 0 (by simp)).trans (by go_simp)
              have e1 : w3.cell? ⟨wr.heap.size, 1, none⟩ = some (.int .i64 rpr) := (qc _ 1 (by simp)).trans (by go_simp)
              have e2 : w3.cell? ⟨wr.heap.size, 2, none⟩ = some (.bool rcl) := (qc _ 2 (by simp)).trans (by go_simp)
              have HB3 : Hid (Below W0.heap.size W0 w3) := ext_trans (ext_alloc HB.out) hb3
              have d4 := (HB3.out.cell (p := ⟨T, 4, none⟩) hTl).trans b4
              generalize wr.heap.size = Tr at e0 e1 e2 hz3 ⊢
              clear qc qf hb3 c0 c1 c2
              have HPB : Hid (preB rp = (digitsB rp 0 15 && !(Lib.hasPrefix rp [48]))) := rfl
              generalize digitsB rp 0 15 = gd at HPB ⊢
              cases gd
              · obtain rfl : X = 3 := by rw [HER.out, if_pos (show preB rp = false from HPB.out)]
                obtain rfl : R = 3 := HSTOP.out (by decide)
                clear HPB
                clear HER HSTOP HNX HPV
                skip
                as_aux_lemma =>
                  go_wp2_with fail
                  go_ret
                  exact ⟨rfl, ext_trans HB0.out HB3.out⟩
              skip
              as_aux_lemma =>
                go_wp2_with fail
                refine (hasPrefix_l rp [48] _).mono ?_
                rintro e w4 ⟨rfl, rfl⟩
                have HPB2 : Hid (preB rp = !(Lib.hasPrefix rp [48])) := HPB.out
                clear HPB
                generalize Lib.hasPrefix rp [48] = gp at HPB2 ⊢
                generalize preB rp = g1 at HER HPB2
                cases gp
                case true =>
                  obtain rfl : X = 3 := by rw [HER.out, if_pos (show g1 = false from HPB2.out)]
                  obtain rfl : R = 3 := HSTOP.out (by decide)
                  clear HPB2
                  clear HER HSTOP HNX HPV
                  skip
                  as_aux_lemma =>
                    go_wp2_with fail
                    go_ret
                    exact ⟨rfl, ext_trans HB0.out HB3.out⟩
                obtain rfl : g1 = true := HPB2.out
                clear HPB2
                have HER1 : Hid (X = if 0 < k ∧ Op.bytesLess qp rp = false then 7
                  else if inB rpr 0 100000000 = false then 1
                  else if rcl = true ∧ rpr ≠ 0 then 3
                  else 0) := by show _ = _; rw [HER.out, if_neg (by decide)]
                clear HER
                by_cases hk0 : k = 0
                · subst hk0
                  have HER2 : Hid (X = if inB rpr 0 100000000 = false then 1
                    else if rcl = true ∧ rpr ≠ 0 then 3
                    else 0) := by show _ = _; rw [HER1.out, if_neg (fun h => by omega)]
                  clear HER1 HPV
                  skip
                  as_aux_lemma =>
                    go_wp2_with fail
                    go_quiet (fail)
                    go_wp2_with fail
                    refine (in_same rpr 0 100000000 _).mono ?_
                    rintro e w4 ⟨rfl, rfl⟩
                    generalize inB rpr 0 100000000 = g2 at HER2 ⊢
                    cases g2
                    · obtain rfl : X = 1 := by rw [HER2.out, if_pos rfl]
                      obtain rfl : R = 1 := HSTOP.out (by decide)
                      clear HER2 HSTOP HNX
                      skip
                      as_aux_lemma =>
                        go_wp2_with fail
                        go_ret
                        exact ⟨rfl, ext_trans HB0.out (ext_drewN HB3.out)⟩
                    cases rcl
                    · skip
                      have HZ2 := Lib.hid (HNX.out (by rw [HER2.out, if_neg (by decide), if_neg (by simp)]))
                      clear HER2 HSTOP HNX
                      skip
                      as_aux_lemma =>
                        go_wp2_with fail
                        go_roundw
                        case rel => exact ⟨0 + 1, by omega, by go_num, HZ2.out, ext_drewN HB3.out⟩
                        case measure => simp [intOf]; omega
                    by_cases hp0 : rpr = 0
                    · have hpb : (rpr != 0) = false := by simp [hp0]
                      have HP0 := Lib.hid hp0
                      clear hp0
                      have HZ2 := Lib.hid (HNX.out (by rw [HER2.out, if_neg (by decide), if_neg (fun h => h.2 HP0.out)]))
                      clear HER2 HSTOP HNX
                      skip
                      as_aux_lemma =>
                        go_wp2_with fail
                        go_roundw
                        case rel => exact ⟨0 + 1, by omega, by go_num, HZ2.out, ext_drewN HB3.out⟩
                        case measure => simp [intOf]; omega
                    have hpb : (rpr != 0) = true := by simp [hp0]
                    obtain rfl : X = 3 := by rw [HER2.out, if_neg (by decide), if_pos ⟨rfl, hp0⟩]
                    obtain rfl : R = 3 := HSTOP.out (by decide)
                    clear hp0
                    clear HER2 HSTOP HNX
                    skip
                    as_aux_lemma =>
                      go_wp2_with fail
                      go_ret
                      exact ⟨rfl, ext_trans HB0.out (ext_drewN HB3.out)⟩
                obtain ⟨j, rfl⟩ : ∃ j, k = j + 1 := ⟨k - 1, by omega⟩
                have p0 := HPV.out (by omega)
                rw [Nat.add_sub_cancel] at p0
                have g0 := (HB3.out.cell (p := ⟨b, off + j * 3, none⟩) hb).trans p0
                have w1 : IntKind.i64.wrap (j : Int) = j := IntWalk.i64_in _ (by omega)
                have w2 : IntKind.i64.wrap ((j : Int) + 1 - 1) = j := by rw [Int.add_sub_cancel]; exact w1
                have w3 : (j : Int) < rn := by omega
                have w4 : (0 : Int) ≤ (j : Int) := by omega
                clear HPV p0 hk0
                cases hls : Op.bytesLess qp rp
                · obtain rfl : X = 7 := by rw [HER1.out, if_pos ⟨by omega, hls⟩]
                  obtain rfl : R = 7 := HSTOP.out (by decide)
                  clear HER1 HSTOP HNX
                  by_cases hxe : rp = qp
                  · subst hxe
                    skip
                    as_aux_lemma =>
                      go_wp2_with fail
                      go_quiet (fail)
                      go_wp2_with fail
                      go_ret
                      exact ⟨rfl, ext_trans HB0.out (ext_drewN HB3.out)⟩
                  · have hx1 : Op.bytesLess rp qp = true := less_total qp rp hls (Ne.symm hxe)
                    skip
                    as_aux_lemma =>
                      go_wp2_with fail
                      go_quiet (fail)
                      go_wp2_with fail
                      go_ret
                      exact ⟨rfl, ext_trans HB0.out (ext_drewN HB3.out)⟩
                have HER2 : Hid (X = if inB rpr 0 100000000 = false then 1
                  else if rcl = true ∧ rpr ≠ 0 then 3
                  else 0) := by show _ = _; rw [HER1.out, if_neg (fun h => by rw [hls] at h; cases h.2)]
                obtain ⟨hx1, hx2⟩ := less_asym hls
                have hx3 : (rp == qp) = false := beq_eq_false_iff_ne.2 (fun e => hx2 e.symm)
                clear HER1 hx2
                skip
                as_aux_lemma =>
                  go_wp2_with fail
                  go_quiet (fail)
                  go_wp2_with fail
                  refine (in_same rpr 0 100000000 _).mono ?_
                  rintro e w4 ⟨rfl, rfl⟩
                  generalize inB rpr 0 100000000 = g2 at HER2 ⊢
                  cases g2
                  · obtain rfl : X = 1 := by rw [HER2.out, if_pos rfl]
                    obtain rfl : R = 1 := HSTOP.out (by decide)
                    clear HER2 HSTOP HNX
                    skip
                    as_aux_lemma =>
                      go_wp2_with fail
                      go_ret
                      exact ⟨rfl, ext_trans HB0.out (ext_drewN HB3.out)⟩
                  cases rcl
                  · skip
                    have HZ2 := Lib.hid (HNX.out (by rw [HER2.out, if_neg (by decide), if_neg (by simp)]))
                    clear HER2 HSTOP HNX
                    skip
                    as_aux_lemma =>
                      go_wp2_with fail
                      go_roundw
                      case rel => exact ⟨j + 1 + 1, by omega, by go_num, HZ2.out, ext_drewN HB3.out⟩
                      case measure => simp [intOf]; omega
                  by_cases hp0 : rpr = 0
                  · have hpb : (rpr != 0) = false := by simp [hp0]
                    have HP0 := Lib.hid hp0
                    clear hp0
                    have HZ2 := Lib.hid (HNX.out (by rw [HER2.out, if_neg (by decide), if_neg (fun h => h.2 HP0.out)]))
                    clear HER2 HSTOP HNX
                    skip
                    as_aux_lemma =>
                      go_wp2_with fail
                      go_roundw
                      case rel => exact ⟨j + 1 + 1, by omega, by go_num, HZ2.out, ext_drewN HB3.out⟩
                      case measure => simp [intOf]; omega
                  have hpb : (rpr != 0) = true := by simp [hp0]
                  obtain rfl : X = 3 := by rw [HER2.out, if_neg (by decide), if_pos ⟨rfl, hp0⟩]
                  obtain rfl : R = 3 := HSTOP.out (by decide)
                  clear hp0
                  clear HER2 HSTOP HNX
                  skip
                  as_aux_lemma =>
                    go_wp2_with fail
                    go_ret
                    exact ⟨rfl, ext_trans HB0.out (ext_drewN HB3.out)⟩
end Go.Proofs.YtacekbbndamkmaaGreatDoor

set_option linter.unusedVariables false
set_option linter.unusedSimpArgs false
namespace Go.Proofs.YtacekbbndamkmaaGreatDoor
open Go.RowKit
open Go.Maps

theorem raised_any (n part : Int) (hn : 0 ≤ n ∧ n ≤ 100000000) (hp : -1000 ≤ part ∧ part ≤ 10000) (w : World) : Calls Tryz.prog 61 #[.int .i64 n, .int .i64 part] w fun e w' => e = .returned (.int .i64 (upD (n * (1000 + part)) 1000)) ∧ w = w' := by
  have m0 : 0 ≤ n * (1000 + part) := Int.mul_nonneg hn.1 (by omega)
  have m1 : n * (1000 + part) ≤ 100000000 * 11000 := Int.mul_le_mul hn.2 (by omega) (by omega) (by omega)
  have v0 : IntKind.i64.wrap (1000 + part) = 1000 + part := IntWalk.i64_in _ (by omega)
  have HU : Hid (upD (n * (1000 + part)) 1000 = (n * (1000 + part) + 999) / 1000) := by
    show (n * (1000 + part) + 1000 - 1) / 1000 = _
    rw [show n * (1000 + part) + 1000 - 1 = n * (1000 + part) + 999 by omega]
  generalize upD (n * (1000 + part)) 1000 = U at HU ⊢
  have v1 : IntKind.i64.wrap (n * (1000 + part)) = n * (1000 + part) := IntWalk.i64_in _ (by omega)
  have v2 : IntKind.i64.wrap (n * (1000 + part) + 999) = n * (1000 + part) + 999 := IntWalk.i64_in _ (by omega)
  have v3 : (n * (1000 + part) + 999).tdiv 1000 = (n * (1000 + part) + 999) / 1000 := Int.tdiv_eq_ediv_of_nonneg (by omega)
  have v4 : IntKind.i64.wrap ((n * (1000 + part) + 999) / 1000) = (n * (1000 + part) + 999) / 1000 := IntWalk.i64_in _ (by omega)
  go_enter Tryz.func61, Tryz.ntmps61
  go_wp2_with fail
  go_ret
  exact ⟨by rw [HU.out]; rfl, rfl⟩
set_option maxRecDepth 100000 in
set_option maxHeartbeats 4000000 in
theorem checkTwo_any (w : World) (a b : Deck) (ha : DeckFine w a) (hb : DeckFine w b) : Calls Tryz.prog 47 #[.agg a.cells.toArray, .agg b.cells.toArray] w (ErrPost (firstE (deckErr a) (deckErr b)) w) := by
  have HCA : Hid (∀ W, Below w.heap.size w W → Calls Tryz.prog 25 #[.agg a.cells.toArray] W (ErrPost (deckErr a) W)) := fun W hW => checkDeck_any W a (ha.below hW)
  have HCB : Hid (∀ W, Below w.heap.size w W → Calls Tryz.prog 25 #[.agg b.cells.toArray] W (ErrPost (deckErr b) W)) := fun W hW => checkDeck_any W b (hb.below hW)
  generalize deckErr a = EA at HCA ⊢
  generalize deckErr b = EB at HCB ⊢
  have HRR : Hid (firstE EA EB = firstE EA EB) := rfl
  generalize hRR : firstE EA EB = R
  have HRE := Lib.hid hRR
  clear hRR HRR
  obtain ⟨gf, gs, gl, gp, ga, gn, gc, grs⟩ := a
  obtain ⟨kf, ks, kl, kp, ka, kn, kc, krs⟩ := b
  have HCA2 : Hid (∀ W, Below w.heap.size w W → Calls Tryz.prog 25 #[.agg #[.int .i64 gf, .int .i64 gs, .int .i64 gl, .int .i64 gp, .slice ga gn gc]] W (ErrPost EA W)) := HCA.out
  have HCB2 : Hid (∀ W, Below w.heap.size w W → Calls Tryz.prog 25 #[.agg #[.int .i64 kf, .int .i64 ks, .int .i64 kl, .int .i64 kp, .slice ka kn kc]] W (ErrPost EB W)) := HCB.out
  show Calls Tryz.prog 47 #[.agg #[.int .i64 gf, .int .i64 gs, .int .i64 gl, .int .i64 gp, .slice ga gn gc], .agg #[.int .i64 kf, .int .i64 ks, .int .i64 kl, .int .i64 kp, .slice ka kn kc]] w _
  clear ha hb HCA HCB
  have HX : Hid (Blk (((w.alloc (.cells #[.int .i64 gf, .int .i64 gs, .int .i64 gl, .int .i64 gp, .slice ga gn gc] 28)).alloc (.cells #[.int .i64 kf, .int .i64 ks, .int .i64 kl, .int .i64 kp, .slice ka kn kc] 28))) w.heap.size [.int .i64 gf, .int .i64 gs, .int .i64 gl, .int .i64 gp, .slice ga gn gc] 28) := (Blk.new w _ _).alloc _
  have HY : Hid (Blk (((w.alloc (.cells #[.int .i64 gf, .int .i64 gs, .int .i64 gl, .int .i64 gp, .slice ga gn gc] 28)).alloc (.cells #[.int .i64 kf, .int .i64 ks, .int .i64 kl, .int .i64 kp, .slice ka kn kc] 28))) (w.heap.size + 1) [.int .i64 kf, .int .i64 ks, .int .i64 kl, .int .i64 kp, .slice ka kn kc] 28) := by
    have := Blk.new (w.alloc (.cells #[.int .i64 gf, .int .i64 gs, .int .i64 gl, .int .i64 gp, .slice ga gn gc] 28)) [.int .i64 kf, .int .i64 ks, .int .i64 kl, .int .i64 kp, .slice ka kn kc] 28
    rw [show (w.alloc (.cells #[.int .i64 gf, .int .i64 gs, .int .i64 gl, .int .i64 gp, .slice ga gn gc] 28)).heap.size = w.heap.size + 1 by simp] at this
    exact this
  have HA : Hid (Below w.heap.size w (((w.alloc (.cells #[.int .i64 gf, .int .i64 gs, .int .i64 gl, .int .i64 gp, .slice ga gn gc] 28)).alloc (.cells #[.int .i64 kf, .int .i64 ks, .int .i64 kl, .int .i64 kp, .slice ka kn kc] 28)))) := ext_alloc (ext_alloc (Below.refl _ _))
  go_enter Tryz.func47, Tryz.ntmps47
  as_aux_lemma =>
    go_upto_region 1 with (fail)
    generalize World.alloc (World.alloc w _) _ = w1 at HX HY HA ⊢
    generalize w.heap.size + 1 = Y at HY ⊢
    generalize w.heap.size = X at HX ⊢
    have x0 := HX.out.cell 0 rfl
    have x1 := HX.out.cell 1 rfl
    have x2 := HX.out.cell 2 rfl
    have x3 := HX.out.cell 3 rfl
    have x4 := HX.out.cell 4 rfl
    as_aux_lemma =>
      go_wp2_with fail
      refine (HCA2.out w1 HA.out).mono ?_
      rintro e w2 ⟨rfl, hb2⟩
      have HY2 := Lib.hid (HY.out.below hb2)
      have HB2 := Lib.hid (ext_trans HA.out hb2)
      have y0 := HY2.out.cell 0 rfl
      have y1 := HY2.out.cell 1 rfl
      have y2 := HY2.out.cell 2 rfl
      have y3 := HY2.out.cell 3 rfl
      have y4 := HY2.out.cell 4 rfl
      clear hb2 HX HY HA HCA2 x0 x1 x2 x3 x4
      by_cases hE : EA = 0
      · subst hE
        have HFE : Hid (R = EB) := HRE.out.symm
        clear HRE
        as_aux_lemma =>
          go_wp2_with fail
          refine (HCB2.out w2 HB2.out).mono ?_
          rintro e w3 ⟨rfl, hb3⟩
          have HB3 := Lib.hid (ext_trans HB2.out hb3)
          clear hb3 HB2 HY2 y0 y1 y2 y3 y4
          as_aux_lemma =>
            go_wp2_with fail
            go_ret
            exact ⟨by rw [HFE.out]; rfl, HB3.out⟩
      have hEb : (EA == 0) = false := beq_eq_false_iff_ne.2 hE
      have HFE : Hid (R = EA) := HRE.out.symm.trans (if_pos hE)
      clear HRE
      as_aux_lemma =>
        go_wp2_with fail
        go_ret
        exact ⟨by rw [HFE.out]; rfl, HB2.out⟩
/-- A deck with rates of the call's own. -/
def DeckPostO (df ds dl dp : Int) (rates : List Rate) (w : World) (e : Ending) (w' : World) : Prop := ∃ a n c, e = .returned (.agg #[.int .i64 df, .int .i64 ds, .int .i64 dl, .int .i64 dp, .slice a n c]) ∧ w'.ownsRow w.heap.size 51 3 (.slice a n c) rates.length ((rates.map Rate.cells).flatten) ∧ Below w.heap.size w w'
/-- Such a deck, and an error. -/
def DeckPostE (df ds dl dp : Int) (rates : List Rate) (E : Int) (w : World) (e : Ending) (w' : World) : Prop := ∃ a n c, e = .returned (.tuple #[.agg #[.int .i64 df, .int .i64 ds, .int .i64 dl, .int .i64 dp, .slice a n c], .int .i64 E]) ∧ w'.ownsRow w.heap.size 51 3 (.slice a n c) rates.length ((rates.map Rate.cells).flatten) ∧ Below w.heap.size w w'
theorem zero_own (w : World) (b : Nat) : w.ownsRow b 51 3 (.slice none 0 0) ([] : List Rate).length ((([] : List Rate).map Rate.cells).flatten) := World.ownsRow_nil _ _ _ _
set_option maxRecDepth 100000 in
set_option maxHeartbeats 4000000 in
theorem leastDeck_any (w : World) (df ds dl dp : Int) (da : Option Addr) (dn dc : Nat) (rates : List Rate) (hr : RateRow w da dn rates) : Calls Tryz.prog 11 #[.agg #[.int .i64 df, .int .i64 ds, .int .i64 dl, .int .i64 dp, .slice da dn dc]] w (DeckPostO df ds dl dp (leastR rates) w) := by
  have HR := Lib.hid hr
  have HLR : Hid (∀ W, Below w.heap.size w W → Calls Tryz.prog 46 #[.slice da dn dc] W (RatesPost (leastR rates) W)) := fun W hW => leastRates_any W da dn dc rates (hr.below hW)
  generalize leastR rates = R at HLR ⊢
  clear hr HR
  have HX : Hid (Blk (((w.alloc (.cells #[.int .i64 df, .int .i64 ds, .int .i64 dl, .int .i64 dp, .slice da dn dc] 28)).alloc (.cells #[.int .i64 0, .int .i64 0, .int .i64 0, .int .i64 0, .slice none 0 0] 28))) w.heap.size [.int .i64 df, .int .i64 ds, .int .i64 dl, .int .i64 dp, .slice da dn dc] 28) := (Blk.new w _ _).alloc _
  have HF : Hid (Blk (((w.alloc (.cells #[.int .i64 df, .int .i64 ds, .int .i64 dl, .int .i64 dp, .slice da dn dc] 28)).alloc (.cells #[.int .i64 0, .int .i64 0, .int .i64 0, .int .i64 0, .slice none 0 0] 28))) (w.heap.size + 1) [.int .i64 0, .int .i64 0, .int .i64 0, .int .i64 0, .slice none 0 0] 28) := by
    have := Blk.new (w.alloc (.cells #[.int .i64 df, .int .i64 ds, .int .i64 dl, .int .i64 dp, .slice da dn dc] 28)) [.int .i64 0, .int .i64 0, .int .i64 0, .int .i64 0, .slice none 0 0] 28
    rw [show (w.alloc (.cells #[.int .i64 df, .int .i64 ds, .int .i64 dl, .int .i64 dp, .slice da dn dc] 28)).heap.size = w.heap.size + 1 by simp] at this
    exact this
  have HA : Hid (Below w.heap.size w (((w.alloc (.cells #[.int .i64 df, .int .i64 ds, .int .i64 dl, .int .i64 dp, .slice da dn dc] 28)).alloc (.cells #[.int .i64 0, .int .i64 0, .int .i64 0, .int .i64 0, .slice none 0 0] 28)))) := ext_alloc (ext_alloc (Below.refl _ _))
  go_enter Tryz.func11, Tryz.ntmps11
  as_aux_lemma =>
    go_upto_region 1 with (fail)
    generalize World.alloc (World.alloc w _) _ = w1 at HX HF HA ⊢
    obtain ⟨X, hX⟩ : ∃ X, X = w.heap.size := ⟨_, rfl⟩
    obtain ⟨F, hF⟩ : ∃ F, F = w.heap.size + 1 := ⟨_, rfl⟩
    rw [← hF] at HF
    rw [← hX] at HX
    have hwF : w.heap.size ≤ F := by omega
    have hwX : w.heap.size ≤ X := by omega
    have hXF : X ≠ F := by omega
    have hFX : F ≠ X := by omega
    simp only [← hF]
    simp only [← hX]
    clear hX hF
    have x4 := HX.out.cell 4 rfl
    as_aux_lemma =>
      go_wp2_with fail
      refine (HLR.out w1 HA.out).mono ?_
      rintro e w2 ⟨v2, rfl, ho2, hb2⟩
      obtain ⟨na, nc, rfl⟩ := own_shape ho2
      have HB2 := Lib.hid (ext_trans HA.out hb2)
      have hX2 := HX.out.below hb2
      have hF2 := HF.out.below hb2
      have hXl := HX.out.lt
      have hFl := HF.out.lt
      have hv2 : ∀ b, (Value.slice na R.length nc).ownBlock = some b → w1.heap.size ≤ b := fun b e => (ho2.lt b e).1
      have x4 := hX2.cell 4 rfl
      have xf := hX2.fr 4
      have HX3 := Lib.hid (hX2.put 4 (.slice na R.length nc))
      have HF3 := Lib.hid (hF2.far (p := ⟨X, 4, none⟩) (u := .slice na R.length nc) hXF)
      have HO3 := Lib.hid (own_set (p := ⟨X, 4, none⟩) (u := .slice na R.length nc) ho2 (fun e => by have := hv2 X e; omega))
      have HB3 := Lib.hid (HB2.out.setCell (p := ⟨X, 4, none⟩) hwX (.slice na R.length nc))
      have HV := Lib.hid hv2
      clear ho2 hb2 hX2 hF2 HX HF HA HLR HB2 hv2
      as_aux_lemma =>
        go_upto_region 2 with (fail)
        clear x4 xf
        generalize World.setCell w2 _ _ = w3 at HX3 HF3 HO3 HB3 ⊢
        have HRA : Hid (w3.rangeAt X 0 [.int .i64 df, .int .i64 ds, .int .i64 dl, .int .i64 dp, .slice na R.length nc]) := HX3.out.range
        have HTH : Hid (w3.there F 0 5) := HF3.out.th 5 (by decide)
        have HR9 := Lib.hid (HF3.out.set5 (.int .i64 df) (.int .i64 ds) (.int .i64 dl) (.int .i64 dp) (.slice na R.length nc))
        have HE : Hid (DeckPostO df ds dl dp R w (.returned (.agg #[.int .i64 df, .int .i64 ds, .int .i64 dl, .int .i64 dp, .slice na R.length nc])) (w3.setCells F 0 [.int .i64 df, .int .i64 ds, .int .i64 dl, .int .i64 dp, .slice na R.length nc])) := ⟨na, R.length, nc, rfl, own_le (own_gb HO3.out (setCells_gb F _ 0) (fun b h1 h2 => by have := HV.out b h1; injection h2 with h2; omega)) (Nat.le_trans hwX (Nat.le_of_lt hXl)), below_put hwF HB3.out _⟩
        clear HX3 HF3 HO3 HB3
        as_aux_lemma =>
          go_wp2_with (first | (refine wpList_load_mid rfl 28 (.tmp 1) rfl X 0 rfl [.int .i64 df, .int .i64 ds, .int .i64 dl, .int .i64 dp, .slice na R.length nc] _ HRA.out Tryz.underlying28 rfl Tryz.deckSz ?_) | (refine wpList_store_mid rfl 28 (.tmp 2) (.tmp 7) rfl F 0 #[.int .i64 df, .int .i64 ds, .int .i64 dl, .int .i64 dp, .slice na R.length nc] rfl rfl HTH.out Tryz.deckSz (by simp [Value.oneCell']) ?_; generalize World.setCells w3 F 0 _ = W9 at HR9 HE ⊢))
          refine bodyPost_ret (v := .agg #[.int .i64 df, .int .i64 ds, .int .i64 dl, .int .i64 dp, .slice na R.length nc]) ?_ rfl HE.out
          exact results_cell1 (t := 2) (by rfl) _ _ _ Tryz.isAgg28 Tryz.sizeOf28 (by rfl) [.int .i64 df, .int .i64 ds, .int .i64 dl, .int .i64 dp, .slice na R.length nc] rfl (fun j v hj => HR9.out.cell j hj)
set_option maxRecDepth 100000 in
set_option maxHeartbeats 4000000 in
theorem carLeast_any (w : World) (d : Deck) (hd : DeckFine w d) (E : Int) (hE : deckErr d = E) : Calls Tryz.prog 9 #[.agg d.cells.toArray] w (if E = 0 then DeckPostE d.from_ d.setup d.least d.step (leastR d.rates) 0 w else DeckPostE 0 0 0 0 [] E w) := by
  have HCA : Hid (∀ W, Below w.heap.size w W → Calls Tryz.prog 25 #[.agg d.cells.toArray] W (ErrPost E W)) := fun W hW => hE ▸ checkDeck_any W d (hd.below hW)
  have HS : Hid (E = 0 → RSorted d.rates) := fun h => (deck_good (Nat.le_trans (by rw [← hd.row.len]; exact hd.row.few) (by decide)) (hE.trans h)).sorted
  have HR := Lib.hid hd.row
  have hcap := hd.cap
  clear hd hE
  obtain ⟨df, ds, dl, dp, da, dn, dc, rates⟩ := d
  have HCA2 : Hid (∀ W, Below w.heap.size w W → Calls Tryz.prog 25 #[.agg #[.int .i64 df, .int .i64 ds, .int .i64 dl, .int .i64 dp, .slice da dn dc]] W (ErrPost E W)) := HCA.out
  show Calls Tryz.prog 9 #[.agg #[.int .i64 df, .int .i64 ds, .int .i64 dl, .int .i64 dp, .slice da dn dc]] w _
  simp only at HR HS hcap ⊢
  clear HCA
  by_cases hE : E = 0
  case neg =>
    rw [if_neg hE]
    have hEb : (E == 0) = false := beq_eq_false_iff_ne.2 hE
    clear HS HR hcap
    have HX : Hid (Blk (((w.alloc (.cells #[.int .i64 df, .int .i64 ds, .int .i64 dl, .int .i64 dp, .slice da dn dc] 28)).alloc (.cells #[.int .i64 0, .int .i64 0, .int .i64 0, .int .i64 0, .slice none 0 0] 28))) w.heap.size [.int .i64 df, .int .i64 ds, .int .i64 dl, .int .i64 dp, .slice da dn dc] 28) := (Blk.new w _ _).alloc _
    have HF : Hid (Blk (((w.alloc (.cells #[.int .i64 df, .int .i64 ds, .int .i64 dl, .int .i64 dp, .slice da dn dc] 28)).alloc (.cells #[.int .i64 0, .int .i64 0, .int .i64 0, .int .i64 0, .slice none 0 0] 28))) (w.heap.size + 1) [.int .i64 0, .int .i64 0, .int .i64 0, .int .i64 0, .slice none 0 0] 28) := by
      have := Blk.new (w.alloc (.cells #[.int .i64 df, .int .i64 ds, .int .i64 dl, .int .i64 dp, .slice da dn dc] 28)) [.int .i64 0, .int .i64 0, .int .i64 0, .int .i64 0, .slice none 0 0] 28
      rw [show (w.alloc (.cells #[.int .i64 df, .int .i64 ds, .int .i64 dl, .int .i64 dp, .slice da dn dc] 28)).heap.size = w.heap.size + 1 by simp] at this
      exact this
    have HA : Hid (Below w.heap.size w (((w.alloc (.cells #[.int .i64 df, .int .i64 ds, .int .i64 dl, .int .i64 dp, .slice da dn dc] 28)).alloc (.cells #[.int .i64 0, .int .i64 0, .int .i64 0, .int .i64 0, .slice none 0 0] 28)))) := ext_alloc (ext_alloc (Below.refl _ _))
    go_enter Tryz.func9, Tryz.ntmps9
    as_aux_lemma =>
      go_upto_region 1 with (fail)
      generalize World.alloc (World.alloc w _) _ = w1 at HX HF HA ⊢
      obtain ⟨X, hX⟩ : ∃ X, X = w.heap.size := ⟨_, rfl⟩
      obtain ⟨F, hF⟩ : ∃ F, F = w.heap.size + 1 := ⟨_, rfl⟩
      rw [← hF] at HF
      rw [← hX] at HX
      have hwF : w.heap.size ≤ F := by omega
      have hwX : w.heap.size ≤ X := by omega
      have hXF : X ≠ F := by omega
      have hFX : F ≠ X := by omega
      simp only [← hF]
      simp only [← hX]
      clear hX hF
      have x0 := HX.out.cell 0 rfl
      have x1 := HX.out.cell 1 rfl
      have x2 := HX.out.cell 2 rfl
      have x3 := HX.out.cell 3 rfl
      have x4 := HX.out.cell 4 rfl
      as_aux_lemma =>
        go_wp2_with fail
        refine (HCA2.out w1 HA.out).mono ?_
        rintro e w2 ⟨rfl, hb2⟩
        have HF2 := Lib.hid (HF.out.below hb2)
        have HB2 := Lib.hid (ext_trans HA.out hb2)
        clear hb2 HX HF HA HCA2 x0 x1 x2 x3 x4
        have HTH : Hid (w2.there F 0 5) := HF2.out.th 5 (by decide)
        have HR9 := Lib.hid (HF2.out.set5 (.int .i64 0) (.int .i64 0) (.int .i64 0) (.int .i64 0) (.slice none 0 0))
        have HE : Hid (DeckPostE 0 0 0 0 [] E w (.returned (.tuple #[.agg #[.int .i64 0, .int .i64 0, .int .i64 0, .int .i64 0, .slice none 0 0], .int .i64 E])) (w2.setCells F 0 [.int .i64 0, .int .i64 0, .int .i64 0, .int .i64 0, .slice none 0 0])) := ⟨none, 0, 0, rfl, zero_own _ _, below_put hwF HB2.out _⟩
        clear HF2 HB2
        as_aux_lemma =>
          go_wp2_with (first | (refine wpList_store_mid rfl 28 (.tmp 2) (.tmp 9) rfl F 0 #[.int .i64 0, .int .i64 0, .int .i64 0, .int .i64 0, .slice none 0 0] rfl rfl HTH.out Tryz.deckSz (by simp [Value.oneCell']) ?_; generalize World.setCells w2 F 0 _ = W9 at HR9 HE ⊢))
          refine bodyPost_ret (v := .tuple #[.agg #[.int .i64 0, .int .i64 0, .int .i64 0, .int .i64 0, .slice none 0 0], .int .i64 E]) ?_ rfl HE.out
          exact results_cell2 (t := 2) (u := 3) (by rfl) _ _ _ Tryz.isAgg28 Tryz.sizeOf28 (by rfl) [.int .i64 0, .int .i64 0, .int .i64 0, .int .i64 0, .slice none 0 0] rfl (fun j v hj => HR9.out.cell j hj)
  subst hE
  rw [if_pos rfl]
  have HWO : Hid (∀ W, Below w.heap.size w W → Calls Tryz.prog 45 #[.slice da dn dc] W (RatesPost (leastR rates) W)) := fun W hW => by
    rw [← without_same (HS.out rfl)]
    exact carWithout_any W da dn dc rates (HR.out.below hW) (HS.out rfl) hcap
  generalize leastR rates = R at HWO ⊢
  clear HS HR hcap
  have HX : Hid (Blk (((w.alloc (.cells #[.int .i64 df, .int .i64 ds, .int .i64 dl, .int .i64 dp, .slice da dn dc] 28)).alloc (.cells #[.int .i64 0, .int .i64 0, .int .i64 0, .int .i64 0, .slice none 0 0] 28))) w.heap.size [.int .i64 df, .int .i64 ds, .int .i64 dl, .int .i64 dp, .slice da dn dc] 28) := (Blk.new w _ _).alloc _
  have HF : Hid (Blk (((w.alloc (.cells #[.int .i64 df, .int .i64 ds, .int .i64 dl, .int .i64 dp, .slice da dn dc] 28)).alloc (.cells #[.int .i64 0, .int .i64 0, .int .i64 0, .int .i64 0, .slice none 0 0] 28))) (w.heap.size + 1) [.int .i64 0, .int .i64 0, .int .i64 0, .int .i64 0, .slice none 0 0] 28) := by
    have := Blk.new (w.alloc (.cells #[.int .i64 df, .int .i64 ds, .int .i64 dl, .int .i64 dp, .slice da dn dc] 28)) [.int .i64 0, .int .i64 0, .int .i64 0, .int .i64 0, .slice none 0 0] 28
    rw [show (w.alloc (.cells #[.int .i64 df, .int .i64 ds, .int .i64 dl, .int .i64 dp, .slice da dn dc] 28)).heap.size = w.heap.size + 1 by simp] at this
    exact this
  have HA : Hid (Below w.heap.size w (((w.alloc (.cells #[.int .i64 df, .int .i64 ds, .int .i64 dl, .int .i64 dp, .slice da dn dc] 28)).alloc (.cells #[.int .i64 0, .int .i64 0, .int .i64 0, .int .i64 0, .slice none 0 0] 28)))) := ext_alloc (ext_alloc (Below.refl _ _))
  go_enter Tryz.func9, Tryz.ntmps9
  as_aux_lemma =>
    go_upto_region 1 with (fail)
    generalize World.alloc (World.alloc w _) _ = w1 at HX HF HA ⊢
    obtain ⟨X, hX⟩ : ∃ X, X = w.heap.size := ⟨_, rfl⟩
    obtain ⟨F, hF⟩ : ∃ F, F = w.heap.size + 1 := ⟨_, rfl⟩
    rw [← hF] at HF
    rw [← hX] at HX
    have hwF : w.heap.size ≤ F := by omega
    have hwX : w.heap.size ≤ X := by omega
    have hXF : X ≠ F := by omega
    have hFX : F ≠ X := by omega
    simp only [← hF]
    simp only [← hX]
    clear hX hF
    have x0 := HX.out.cell 0 rfl
    have x1 := HX.out.cell 1 rfl
    have x2 := HX.out.cell 2 rfl
    have x3 := HX.out.cell 3 rfl
    have x4 := HX.out.cell 4 rfl
    as_aux_lemma =>
      go_wp2_with fail
      refine (HCA2.out w1 HA.out).mono ?_
      rintro e w2 ⟨rfl, hb2⟩
      have HX2 := Lib.hid (HX.out.below hb2)
      have HF2 := Lib.hid (HF.out.below hb2)
      have HB2 := Lib.hid (ext_trans HA.out hb2)
      clear hb2 HX HF HA HCA2 x0 x1 x2 x3 x4
      have x4 := HX2.out.cell 4 rfl
      as_aux_lemma =>
        go_wp2_with fail
        refine (HWO.out w2 HB2.out).mono ?_
        rintro e w3 ⟨v3, rfl, ho3, hb3⟩
        obtain ⟨na, nc, rfl⟩ := own_shape ho3
        have HB3 := Lib.hid (ext_trans HB2.out hb3)
        have hX3 := HX2.out.below hb3
        have hF3 := HF2.out.below hb3
        have hXl := HX2.out.lt
        have hFl := HF2.out.lt
        have hv3 : ∀ b, (Value.slice na R.length nc).ownBlock = some b → w2.heap.size ≤ b := fun b e => (ho3.lt b e).1
        clear x4
        have x4 := hX3.cell 4 rfl
        have xf := hX3.fr 4
        have HX4 := Lib.hid (hX3.put 4 (.slice na R.length nc))
        have HF4 := Lib.hid (hF3.far (p := ⟨X, 4, none⟩) (u := .slice na R.length nc) hXF)
        have HO4 := Lib.hid (own_set (p := ⟨X, 4, none⟩) (u := .slice na R.length nc) ho3 (fun e => by have := hv3 X e; omega))
        have HB4 := Lib.hid (HB3.out.setCell (p := ⟨X, 4, none⟩) hwX (.slice na R.length nc))
        have HV := Lib.hid hv3
        clear ho3 hb3 hX3 hF3 HX2 HF2 HB2 HWO HB3 hv3
        as_aux_lemma =>
          go_upto_region 5 with (fail)
          clear x4 xf
          generalize World.setCell w3 _ _ = w4 at HX4 HF4 HO4 HB4 ⊢
          have HRA : Hid (w4.rangeAt X 0 [.int .i64 df, .int .i64 ds, .int .i64 dl, .int .i64 dp, .slice na R.length nc]) := HX4.out.range
          have HTH : Hid (w4.there F 0 5) := HF4.out.th 5 (by decide)
          have HR9 := Lib.hid (HF4.out.set5 (.int .i64 df) (.int .i64 ds) (.int .i64 dl) (.int .i64 dp) (.slice na R.length nc))
          have HE : Hid (DeckPostE df ds dl dp R 0 w (.returned (.tuple #[.agg #[.int .i64 df, .int .i64 ds, .int .i64 dl, .int .i64 dp, .slice na R.length nc], .int .i64 0])) (w4.setCells F 0 [.int .i64 df, .int .i64 ds, .int .i64 dl, .int .i64 dp, .slice na R.length nc])) := ⟨na, R.length, nc, rfl, own_le (own_gb HO4.out (setCells_gb F _ 0) (fun b h1 h2 => by have := HV.out b h1; injection h2 with h2; omega)) (Nat.le_trans hwX (Nat.le_of_lt hXl)), below_put hwF HB4.out _⟩
          clear HX4 HF4 HO4 HB4
          as_aux_lemma =>
            go_wp2_with (first | (refine wpList_load_mid rfl 28 (.tmp 1) rfl X 0 rfl [.int .i64 df, .int .i64 ds, .int .i64 dl, .int .i64 dp, .slice na R.length nc] _ HRA.out Tryz.underlying28 rfl Tryz.deckSz ?_) | (refine wpList_store_mid rfl 28 (.tmp 2) (.tmp 15) rfl F 0 #[.int .i64 df, .int .i64 ds, .int .i64 dl, .int .i64 dp, .slice na R.length nc] rfl rfl HTH.out Tryz.deckSz (by simp [Value.oneCell']) ?_; generalize World.setCells w4 F 0 _ = W9 at HR9 HE ⊢))
            refine bodyPost_ret (v := .tuple #[.agg #[.int .i64 df, .int .i64 ds, .int .i64 dl, .int .i64 dp, .slice na R.length nc], .int .i64 0]) ?_ rfl HE.out
            exact results_cell2 (t := 2) (u := 3) (by rfl) _ _ _ Tryz.isAgg28 Tryz.sizeOf28 (by rfl) [.int .i64 df, .int .i64 ds, .int .i64 dl, .int .i64 dp, .slice na R.length nc] rfl (fun j v hj => HR9.out.cell j hj)
end Go.Proofs.YtacekbbndamkmaaGreatDoor
