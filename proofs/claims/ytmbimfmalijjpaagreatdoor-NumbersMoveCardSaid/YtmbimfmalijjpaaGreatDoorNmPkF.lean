/- What is proved here: lemmas and contracts for the statement, put together out of smaller texts (PortChk). No condition beyond those stated. -/
import Derived.Test.YtmbimfmalijjpaaGreatDoorNmPkE
import Derived.Maps.AppendAt
set_option linter.unusedVariables false
set_option linter.unusedSimpArgs false
namespace Go.Proofs.YtmbimfmalijjpaaGreatDoor
open Go.RowKit

theorem Tryz.infoRange : (Tryz.prog.info? 53).map (fun i => (i.zero, i.size, i.bytes)) = some (some (.agg #[.string ⟨#[]⟩, .string ⟨#[]⟩]), 2, 32) := by kernel_rfl
theorem take_own (os : List Own) (k : Nat) (hk : k < os.length) : ((os.take (k + 1)).map fun o => Rng.cells o.r).flatten = ((os.take k).map fun o => Rng.cells o.r).flatten ++ Rng.cells (os.getD k noOwn).r := by
  rw [List.take_add_one, List.getElem?_eq_getElem hk, Option.toList_some, List.map_append, List.flatten_append]
  congr 1
  simp [hk]
/-- Ranges of owners, in a row of the call's own. -/
theorem rng_own {w : World} {base : Nat} {v : Value} {m : Nat} {os : List Own} (h : w.ownsRow base 53 2 v m (((os.take m).map fun o => Rng.cells o.r).flatten)) (hl : m = os.length) (he : ∀ i, i < os.length → (os.getD i noOwn).r.f.length ≤ 100 ∧ (os.getD i noOwn).r.t.length ≤ 100 ∧ (os.getD i noOwn).c.length ≤ 100) (hf : m ≤ 5000) :
    ∃ a c, v = .slice a m c ∧ m ≤ c ∧ RngRow w a m (os.map (·.r)) := by
  have hc : ∃ a c, v = .slice a m c ∧ m ≤ c := by
    rcases h.2 with ⟨rfl, h0⟩ | ⟨g, cap, cur, rfl, _, _, h2, _⟩
    · exact ⟨none, 0, by rw [h0], by omega⟩
    · exact ⟨_, cap, rfl, h2⟩
  obtain ⟨a, c, rfl, hmc⟩ := hc
  refine ⟨a, c, rfl, hmc, ?_⟩
  rw [hl, List.take_length] at h
  obtain ⟨a', c', he', hcells⟩ := Cells.of_own h (by intro x hx; obtain ⟨o, _, rfl⟩ := List.mem_map.1 hx; rfl) (by omega)
  injection he' with e1 e2 e3
  subst e1
  refine ⟨?_, hf, fun i hi => ?_⟩
  · rw [List.map_map, hl]
    exact hcells
  · have hi' : i < os.length := by simpa using hi
    rw [getD_map (·.r) os i noOwn noRng hi']
    exact ⟨(he i hi').1, (he i hi').2.1⟩
theorem ports_cases (os : List Own) (ps : List Prt) :
    (rngsErr 0 (os.map (·.r)) ≠ 0 → portsErr os ps = rngsErr 0 (os.map (·.r))) ∧
    (rngsErr 0 (os.map (·.r)) = 0 → (∀ k, k < os.length → (∀ j, j < k → ownErr os j = 0) → ownErr os k ≠ 0 → portsErr os ps = ownErr os k) ∧
      ((∀ j, j < os.length → ownErr os j = 0) → (1000 < ps.length → portsErr os ps = 2) ∧ (ps.length ≤ 1000 → (∀ k, k < ps.length → (∀ j, j < k → portErr ps j = 0) → portErr ps k ≠ 0 → portsErr os ps = portErr ps k) ∧ ((∀ j, j < ps.length → portErr ps j = 0) → portsErr os ps = 0)))) := by
  unfold portsErr
  refine ⟨fun h => by rw [if_pos h], fun h => ⟨fun k h1 h2 h3 => ?_, fun h1 => ⟨fun h2 => ?_, fun h2 => ⟨fun k k1 k2 k3 => ?_, fun k1 => ?_⟩⟩⟩⟩
  · have e := first_some h2 h1 h3
    rw [if_neg (by rw [h]; simp), e, if_pos h3]
  · rw [if_neg (by rw [h]; simp), first_none h1, if_neg (by simp), if_pos h2]
  · rw [if_neg (by rw [h]; simp), first_none h1, if_neg (by simp), if_neg (by omega), first_some k2 k1 k3]
  · rw [if_neg (by rw [h]; simp), first_none h1, if_neg (by simp), if_neg (by omega), first_none k1]

set_option maxRecDepth 100000 in
set_option maxHeartbeats 4000000 in
theorem checkPorts_any (w : World) (a : Option Addr) (m cap : Nat) (os : List Own) (ho : OwnRow w a m os) (hcap : m ≤ cap) (a2 : Option Addr) (m2 cap2 : Nat) (ps : List Prt) (hp : PrtRow w a2 m2 ps) (hcap2 : m2 ≤ cap2) :
    Calls Tryz.prog 9 #[.slice a m cap, .slice a2 m2 cap2] w (ErrPost (portsErr os ps) w) := by
  obtain ⟨i1, hi1, hy0, hy1, hy2⟩ := info_parts Tryz.infoRange
  have HO := Lib.hid ho
  have HP := Lib.hid hp
  have hfew := ho.few
  have hfew2 := hp.few
  have HL1 := Lib.hid ho.len
  have HL2 := Lib.hid hp.len
  have HC := Lib.hid (ports_cases os ps)
  generalize portsErr os ps = R at HC ⊢
  clear ho hp
  go_enter Tryz.func9, Tryz.ntmps9
  go_wp2_with fail
  go_loopw [5, 15] (fun vo it wr => ∃ k : Nat, k ≤ m ∧ it = .int .i64 k ∧ Hid (wr.ownsRow w.heap.size 53 2 vo k (((os.take k).map fun o => Rng.cells o.r).flatten)) ∧ Hid (Below w.heap.size w wr)) (fun _ it _ => m - (intOf it).toNat)
  case atStart => exact ⟨0, Nat.zero_le _, rfl, World.ownsRow_nil _ _ _ _, Below.refl _ _⟩
  case round =>
    obtain ⟨k, hk, rfl, HOW, HB⟩ := hrel
    by_cases hlt : k < m
    · obtain ⟨b, off, rfl, hb, hc⟩ := HO.out.at (by omega)
      obtain ⟨g0, g1, g2⟩ := hc k hlt
      have c0 := (HB.out.cell (p := ⟨b, off + k * 3, none⟩) hb).trans g0
      have c1 := (HB.out.cell (p := ⟨b, off + k * 3 + 1, none⟩) hb).trans g1
      have c2 := (HB.out.cell (p := ⟨b, off + k * 3 + 2, none⟩) hb).trans g2
      have HTK : Hid (((os.take (k + 1)).map fun o => Rng.cells o.r).flatten = ((os.take k).map fun o => Rng.cells o.r).flatten ++ Rng.cells (os.getD k noOwn).r) := take_own os k (by rw [← HL1.out]; exact hlt)
      clear g0 g1 g2 hc
      generalize os.getD k noOwn = o at c0 c1 c2 HTK
      obtain ⟨⟨f, t⟩, c⟩ := o
      simp only at c0 c1 c2 HTK
      generalize ((os.take k).map fun o => Rng.cells o.r).flatten = XS at HOW HTK
      have HOA := Lib.hid ((HOW.out.alloc (.cells #[.string ⟨f.toArray⟩, .string ⟨t.toArray⟩, .string ⟨c.toArray⟩] 73)).alloc (.cells #[.string ⟨f.toArray⟩, .string ⟨t.toArray⟩] 53))
      have hbw := HB.out.size
      as_aux_lemma =>
        go_wp2_with (at_builtin; refine wpList_append_own_at _ rfl (.tmp 19) (.tmp 22) 47 rfl w.heap.size 53 i1 _ 2 32 Tryz.underlying47 hi1 hy0 hy1 hy2 rfl (by omega) _ k XS rfl HOA.out ⟨wr.heap.size + 1, 0, none⟩ 1 1 [.string ⟨f.toArray⟩, .string ⟨t.toArray⟩] rfl rfl (fun j u hj => by rw [show (⟨wr.heap.size + 1, 0, none⟩ : Addr).add j = ⟨wr.heap.size + 1, j, none⟩ by unfold Addr.add; split <;> simp_all]; match j, hj with | 0, hj => simp at hj; subst hj; go_simp | 1, hj => simp at hj; subst hj; go_simp) (by simp [Value.oneCell']) (by simp only [maxLen]; omega) (by omega) (by simp; omega) ?_; intro v9 w9 hown9 hgr9 _ _)
        have HO9 : Hid (w9.ownsRow w.heap.size 53 2 v9 (k + 1) (((os.take (k + 1)).map fun o => Rng.cells o.r).flatten)) := by
          show World.ownsRow _ _ _ _ _ _ _
          rw [HTK.out]
          exact hown9
        have HB9 : Hid (Below w.heap.size w w9) := (ext_alloc HB.out).trans (upto_grown hgr9 (by simp; omega) (fun b e => (HOW.out.lt b e).1))
        clear hown9 hgr9 HOA
        go_roundw
        case rel => exact ⟨k + 1, by omega, by go_num, HO9.out, HB9.out⟩
        case measure => simp [intOf]; omega
    · obtain rfl : k = m := by omega
      obtain ⟨a3, c3, hv3, hc3, hrow⟩ := rng_own HOW.out HL1.out HO.out.each hfew
      have HRW := Lib.hid hrow
      subst hv3
      clear HOW hrow
      as_aux_lemma =>
        go_wp2_with fail
        refine (checkRanges_any _ a3 k c3 _ HRW.out hc3 0 (by omega) (by omega)).mono ?_
        rintro e w2 ⟨rfl, hb2⟩
        have HB2 := Lib.hid (ext_trans HB.out hb2)
        clear hb2 HRW HB
        generalize rngsErr 0 (os.map (·.r)) = E at HC ⊢
        by_cases hE : E = 0
        case neg =>
          obtain rfl : R = E := HC.out.1 hE
          have hEb : (R == 0) = false := by simpa using hE
          clear HC
          as_aux_lemma =>
            go_wp2_with fail
            go_ret
            exact ⟨rfl, HB2.out⟩
        have HC2 := Lib.hid (HC.out.2 hE)
        subst hE
        rw [← HL1.out] at HC2
        rw [← HL2.out] at HC2
        clear HC
        as_aux_lemma =>
          go_wp2_with fail
          obtain ⟨wo, rfl⟩ : ∃ wo : World, wo = wr := ⟨_, rfl⟩
          go_loopw [32] (fun it wr => ∃ i : Nat, i ≤ k ∧ it = .int .i64 i ∧ Hid (∀ j, j < i → ownErr os j = 0) ∧ Hid (Below w.heap.size w wr)) (fun it _ => k - (intOf it).toNat)
          case atStart => exact ⟨0, Nat.zero_le _, rfl, fun j hj => by omega, HB2.out⟩
          case round =>
            obtain ⟨i, hik, rfl, HZ, HB⟩ := hrel
            by_cases hlt2 : i < k
            · obtain ⟨b, off, rfl, hb, hc⟩ := HO.out.at (by omega)
              obtain ⟨g0, g1, g2⟩ := hc i hlt2
              have c0 := (HB.out.cell (p := ⟨b, off + i * 3, none⟩) hb).trans g0
              have c1 := (HB.out.cell (p := ⟨b, off + i * 3 + 1, none⟩) hb).trans g1
              have c2 := (HB.out.cell (p := ⟨b, off + i * 3 + 2, none⟩) hb).trans g2
              have hcl := (HO.out.each i (by rw [← HL1.out]; exact hlt2)).2.2
              have HER : Hid (ownErr os i = if isKeyB (os.getD i noOwn).c = false then 5 else 0) := rfl
              have HSTOP := Lib.hid (HC2.out.1 i hlt2 HZ.out)
              have HNX : Hid (ownErr os i = 0 → ∀ j, j < i + 1 → ownErr os j = 0) := fun h j hj => by
                rcases Nat.lt_succ_iff_lt_or_eq.1 hj with h9 | rfl
                · exact HZ.out j h9
                · exact h
              clear g0 g1 g2 hc HZ
              generalize ownErr os i = X at HER HSTOP HNX
              generalize os.getD i noOwn = o at c0 c1 c2 hcl HER
              obtain ⟨⟨f, t⟩, c⟩ := o
              simp only at c0 c1 c2 hcl HER
              as_aux_lemma =>
                go_wp2_with fail
                refine (isKey_any c _ (by omega)).mono ?_
                rintro e w3 ⟨rfl, hb3⟩
                have HB3 : Hid (Below w.heap.size w w3) := ext_trans (ext_alloc HB.out) hb3
                clear hb3
                generalize isKeyB c = g at HER ⊢
                cases g
                · obtain rfl : X = 5 := by rw [HER.out, if_pos rfl]
                  obtain rfl : R = 5 := HSTOP.out (by decide)
                  clear HER HSTOP HNX HC2
                  as_aux_lemma =>
                    go_wp2_with fail
                    go_ret
                    exact ⟨rfl, HB3.out⟩
                · have HZ2 := Lib.hid (HNX.out (by rw [HER.out]; rfl))
                  clear HER HSTOP HNX
                  as_aux_lemma =>
                    go_wp2_with fail
                    go_roundw
                    case rel => exact ⟨i + 1, by omega, by go_num, HZ2.out, HB3.out⟩
                    case measure => simp [intOf]; omega
            · obtain rfl : i = k := by omega
              have HC3 := Lib.hid (HC2.out.2 HZ.out)
              clear HC2 HZ
              by_cases hbig : 1000 < m2
              · obtain rfl : R = 2 := HC3.out.1 hbig
                have hbI : (1000 : Int) < m2 := by omega
                clear HC3
                as_aux_lemma =>
                  go_wp2_with fail
                  go_ret
                  exact ⟨rfl, HB.out⟩
              have HC4 := Lib.hid (HC3.out.2 (by omega))
              have hbI : ¬ (1000 : Int) < m2 := by omega
              have hm2 : m2 ≤ 1000 := by omega
              clear HC3 hbig
              as_aux_lemma =>
                go_wp2_with fail
                clear hbI
                obtain ⟨wo2, rfl⟩ : ∃ wo2 : World, wo2 = wr := ⟨_, rfl⟩
                go_loopw [46] (fun it wr => ∃ q : Nat, q ≤ m2 ∧ it = .int .i64 q ∧ Hid (∀ j, j < q → portErr ps j = 0) ∧ Hid (Below w.heap.size w wr)) (fun it _ => m2 - (intOf it).toNat)
                case atStart => exact ⟨0, Nat.zero_le _, rfl, fun j hj => by omega, HB.out⟩
                case round =>
                  obtain ⟨q, hq, rfl, HZ, HBq⟩ := hrel
                  by_cases hlt3 : q < m2
                  · obtain ⟨b, off, rfl, hb, hc⟩ := HP.out.at (by omega)
                    have HCC := Lib.hid hc
                    obtain ⟨g0, g1, g2⟩ := hc q hlt3
                    have c0 := (HBq.out.cell (p := ⟨b, off + q * 3, none⟩) hb).trans g0
                    have c1 := (HBq.out.cell (p := ⟨b, off + q * 3 + 1, none⟩) hb).trans g1
                    have c2 := (HBq.out.cell (p := ⟨b, off + q * 3 + 2, none⟩) hb).trans g2
                    obtain ⟨hnl, hcl⟩ := HP.out.each q (by rw [← HL2.out]; exact hlt3)
                    have HER : Hid (portErr ps q = if isNumB (ps.getD q noPrt).n = false then 3
                      else if isMomB (ps.getD q noPrt).at_ = false then 1
                      else if isKeyB (ps.getD q noPrt).c = false then 5
                      else if 0 < q ∧ ¬ (Op.bytesLess (ps.getD (q - 1) noPrt).n (ps.getD q noPrt).n = true ∨ (ps.getD (q - 1) noPrt).n = (ps.getD q noPrt).n ∧ (ps.getD (q - 1) noPrt).at_ < (ps.getD q noPrt).at_) then 7
                      else 0) := rfl
                    have HSTOP := Lib.hid (HC4.out.1 q hlt3 HZ.out)
                    have HNX : Hid (portErr ps q = 0 → ∀ j, j < q + 1 → portErr ps j = 0) := fun h j hj => by
                      rcases Nat.lt_succ_iff_lt_or_eq.1 hj with h9 | rfl
                      · exact HZ.out j h9
                      · exact h
                    have HPV : Hid (0 < q → w.cell? ⟨b, off + (q - 1) * 3, none⟩ = some (.string ⟨(ps.getD (q - 1) noPrt).n.toArray⟩) ∧ w.cell? ⟨b, off + (q - 1) * 3 + 1, none⟩ = some (.int .i64 (ps.getD (q - 1) noPrt).at_)) := fun h => ⟨(HCC.out (q - 1) (by omega)).1, (HCC.out (q - 1) (by omega)).2.1⟩
                    clear g0 g1 g2 hc HZ HCC HC4
                    generalize portErr ps q = X at HER HSTOP HNX
                    generalize ps.getD q noPrt = p at c0 c1 c2 hnl hcl HER
                    generalize ps.getD (q - 1) noPrt = pq at HER HPV
                    obtain ⟨pn, pa, pc⟩ := p
                    obtain ⟨qn, qa, qc⟩ := pq
                    simp only at c0 c1 c2 hnl hcl HER HPV
                    as_aux_lemma =>
                      go_wp2_with fail
                      refine (isNumber_l pn _ (by omega)).mono ?_
                      rintro e w3 ⟨rfl, hb3⟩
                      obtain ⟨qc', qf'⟩ := bcell hb3
                      have hz3 : wr.heap.size < w3.heap.size := by have := hb3.size; simp at this; omega
                      have d0 : w3.cell? ⟨wr.heap.size, 0, none⟩ = some (.string ⟨pn.toArray⟩) := (qc' _ 0 (by simp)).trans (by go_simp)
                      have d1 : w3.cell? ⟨wr.heap.size, 1, none⟩ = some (.int .i64 pa) := (qc' _ 1 (by simp)).trans (by go_simp)
                      have d2 : w3.cell? ⟨wr.heap.size, 2, none⟩ = some (.string ⟨pc.toArray⟩) := (qc' _ 2 (by simp)).trans (by go_simp)
                      have HB3 : Hid (Below w.heap.size w w3) := ext_trans (ext_alloc HBq.out) hb3
                      have HTF : Hid (w.heap.size ≤ wr.heap.size) := HBq.out.size
                      generalize wr.heap.size = T at d0 d1 d2 hz3 HTF ⊢
                      clear qc' qf' hb3 c0 c1 c2
                      generalize isNumB pn = g1 at HER ⊢
                      cases g1
                      · obtain rfl : X = 3 := by rw [HER.out, if_pos rfl]
                        obtain rfl : R = 3 := HSTOP.out (by decide)
                        clear HER HSTOP HNX HPV
                        as_aux_lemma =>
                          go_wp2_with fail
                          go_ret
                          exact ⟨rfl, HB3.out⟩
                      have HER1 : Hid (X = if isMomB pa = false then 1 else if isKeyB pc = false then 5
                        else if 0 < q ∧ ¬ (Op.bytesLess qn pn = true ∨ qn = pn ∧ qa < pa) then 7 else 0) := by show _ = _; rw [HER.out, if_neg (by decide)]
                      clear HER
                      as_aux_lemma =>
                        go_wp2_with fail
                        refine (isMoment_any pa _).mono ?_
                        rintro e w4 ⟨rfl, hw4⟩
                        have hb4 : Below w3.heap.size w3 w4 := by rw [← hw4]; exact Below.refl _ _
                        clear hw4
                        have f0 := (hb4.cell (p := ⟨T, 0, none⟩) hz3).trans d0
                        have f1 := (hb4.cell (p := ⟨T, 1, none⟩) hz3).trans d1
                        have f2 := (hb4.cell (p := ⟨T, 2, none⟩) hz3).trans d2
                        have hz4 : T < w4.heap.size := Nat.lt_of_lt_of_le hz3 hb4.size
                        have HB4 := Lib.hid (ext_trans HB3.out hb4)
                        clear hb4 d0 d1 d2 hz3 HB3
                        generalize isMomB pa = g2 at HER1 ⊢
                        cases g2
                        · obtain rfl : X = 1 := by rw [HER1.out, if_pos rfl]
                          obtain rfl : R = 1 := HSTOP.out (by decide)
                          clear HER1 HSTOP HNX HPV
                          skip
                          as_aux_lemma =>
                            go_wp2_with fail
                            go_ret
                            exact ⟨rfl, HB4.out⟩
                        have HER2 : Hid (X = if isKeyB pc = false then 5
                          else if 0 < q ∧ ¬ (Op.bytesLess qn pn = true ∨ qn = pn ∧ qa < pa) then 7 else 0) := by show _ = _; rw [HER1.out, if_neg (by decide)]
                        clear HER1
                        skip
                        as_aux_lemma =>
                          go_wp2_with fail
                          refine (isKey_any pc _ (by omega)).mono ?_
                          rintro e w5 ⟨rfl, hb5⟩
                          have e0 := (hb5.cell (p := ⟨T, 0, none⟩) hz4).trans f0
                          have e1 := (hb5.cell (p := ⟨T, 1, none⟩) hz4).trans f1
                          have hz5 : T < w5.heap.size := Nat.lt_of_lt_of_le hz4 hb5.size
                          have HB5 := Lib.hid (ext_trans HB4.out hb5)
                          clear hb5 f0 f1 f2 hz4 HB4
                          generalize isKeyB pc = g3 at HER2 ⊢
                          cases g3
                          · obtain rfl : X = 5 := by rw [HER2.out, if_pos rfl]
                            obtain rfl : R = 5 := HSTOP.out (by decide)
                            clear HER2 HSTOP HNX HPV
                            as_aux_lemma =>
                              go_wp2_with fail
                              go_ret
                              exact ⟨rfl, HB5.out⟩
                          have HER3 : Hid (X = if 0 < q ∧ ¬ (Op.bytesLess qn pn = true ∨ qn = pn ∧ qa < pa) then 7 else 0) := by show _ = _; rw [HER2.out, if_neg (by decide)]
                          clear HER2
                          by_cases hq0 : q = 0
                          · subst hq0
                            have HZ2 := Lib.hid (HNX.out (by rw [HER3.out, if_neg (fun h => by omega)]))
                            clear HER3 HNX HSTOP HPV
                            as_aux_lemma =>
                              go_upto_region 27 with (fail)
                              obtain ⟨wd, hwd⟩ : ∃ x : World, x = w5.drew := ⟨_, rfl⟩
                              have HS0 : Hid (Below w5.drew.heap.size w5.drew w5.drew) := Below.refl _ _
                              refine region_seqI (S := fun W => Below w5.drew.heap.size w5.drew W) [(true, 0), (true, 1), (true, 2), (true, 3), (true, 4), (true, 5), (true, 6), (true, 7), (true, 8), (true, 9), (true, 10), (true, 11), (true, 12), (true, 13), (true, 14), (true, 15), (true, 16), (true, 17), (true, 18), (true, 19), (true, 20), (true, 21), (true, 22), (true, 23), (true, 24), (true, 25)] (by kernel_rfl) (by kernel_rfl) rfl (by kernel_rfl) HS0.out ?_
                              simp only [seqOps, List.getD_cons_zero, List.getD_cons_succ]
                              refine seqI_take (v := .int .i64 0) rfl (fun W hW => by go_simp) (fun _ _ _ h => h) ?_
                              simp only [Act.put, List.setIfInBounds_toArray, List.set_cons_zero, List.set_cons_succ]
                              refine seqI_take (v := .bool false) rfl (fun W hW => by go_simp) (fun _ _ _ h => h) ?_
                              simp only [Act.put, List.setIfInBounds_toArray, List.set_cons_zero, List.set_cons_succ]
                              refine seqI_take (v := .bool false) rfl (fun W hW => by go_simp) (fun _ _ _ h => h) ?_
                              simp only [Act.put, List.setIfInBounds_toArray, List.set_cons_zero, List.set_cons_succ]
                              refine seqI_skip rfl (fun _ _ _ h => h) ?_
                              simp only [Act.put, List.setIfInBounds_toArray, List.set_cons_zero, List.set_cons_succ]
                              refine seqI_skip rfl (fun _ _ _ h => h) ?_
                              simp only [Act.put, List.setIfInBounds_toArray, List.set_cons_zero, List.set_cons_succ]
                              refine seqI_skip rfl (fun _ _ _ h => h) ?_
                              simp only [Act.put, List.setIfInBounds_toArray, List.set_cons_zero, List.set_cons_succ]
                              refine seqI_skip rfl (fun _ _ _ h => h) ?_
                              simp only [Act.put, List.setIfInBounds_toArray, List.set_cons_zero, List.set_cons_succ]
                              refine seqI_skip rfl (fun _ _ _ h => h) ?_
                              simp only [Act.put, List.setIfInBounds_toArray, List.set_cons_zero, List.set_cons_succ]
                              refine seqI_skip rfl (fun _ _ _ h => h) ?_
                              simp only [Act.put, List.setIfInBounds_toArray, List.set_cons_zero, List.set_cons_succ]
                              refine seqI_skip rfl (fun _ _ _ h => h) ?_
                              simp only [Act.put, List.setIfInBounds_toArray, List.set_cons_zero, List.set_cons_succ]
                              refine seqI_skip rfl (fun _ _ _ h => h) ?_
                              simp only [Act.put, List.setIfInBounds_toArray, List.set_cons_zero, List.set_cons_succ]
                              refine seqI_skip rfl (fun _ _ _ h => h) ?_
                              simp only [Act.put, List.setIfInBounds_toArray, List.set_cons_zero, List.set_cons_succ]
                              refine seqI_skip rfl (fun _ _ _ h => h) ?_
                              simp only [Act.put, List.setIfInBounds_toArray, List.set_cons_zero, List.set_cons_succ]
                              refine seqI_skip rfl (fun _ _ _ h => h) ?_
                              simp only [Act.put, List.setIfInBounds_toArray, List.set_cons_zero, List.set_cons_succ]
                              refine seqI_skip rfl (fun _ _ _ h => h) ?_
                              simp only [Act.put, List.setIfInBounds_toArray, List.set_cons_zero, List.set_cons_succ]
                              refine seqI_skip rfl (fun _ _ _ h => h) ?_
                              simp only [Act.put, List.setIfInBounds_toArray, List.set_cons_zero, List.set_cons_succ]
                              refine seqI_skip rfl (fun _ _ _ h => h) ?_
                              simp only [Act.put, List.setIfInBounds_toArray, List.set_cons_zero, List.set_cons_succ]
                              refine seqI_skip rfl (fun _ _ _ h => h) ?_
                              simp only [Act.put, List.setIfInBounds_toArray, List.set_cons_zero, List.set_cons_succ]
                              refine seqI_skip rfl (fun _ _ _ h => h) ?_
                              simp only [Act.put, List.setIfInBounds_toArray, List.set_cons_zero, List.set_cons_succ]
                              refine seqI_skip rfl (fun _ _ _ h => h) ?_
                              simp only [Act.put, List.setIfInBounds_toArray, List.set_cons_zero, List.set_cons_succ]
                              refine seqI_skip rfl (fun _ _ _ h => h) ?_
                              simp only [Act.put, List.setIfInBounds_toArray, List.set_cons_zero, List.set_cons_succ]
                              refine seqI_skip rfl (fun _ _ _ h => h) ?_
                              simp only [Act.put, List.setIfInBounds_toArray, List.set_cons_zero, List.set_cons_succ]
                              refine seqI_skip rfl (fun _ _ _ h => h) ?_
                              simp only [Act.put, List.setIfInBounds_toArray, List.set_cons_zero, List.set_cons_succ]
                              refine seqI_skip rfl (fun _ _ _ h => h) ?_
                              simp only [Act.put, List.setIfInBounds_toArray, List.set_cons_zero, List.set_cons_succ]
                              refine seqI_take (v := .bool false) rfl (fun W hW => by go_simp) (fun _ _ _ h => h) ?_
                              simp only [Act.put, List.setIfInBounds_toArray, List.set_cons_zero, List.set_cons_succ]
                              refine seqI_take (v := .bool false) rfl (fun W hW => by go_simp) (fun _ _ _ h => h) ?_
                              simp only [Act.put, List.setIfInBounds_toArray, List.set_cons_zero, List.set_cons_succ]
                              refine seqI_nil ?_
                              as_aux_lemma =>
                                go_wp2_with fail
                                go_roundw
                                case rel => exact ⟨1, by omega, by go_num, HZ2.out, HB5.out.drew⟩
                                case measure => simp [intOf]; omega
                          · obtain ⟨j, rfl⟩ : ∃ j, q = j + 1 := ⟨q - 1, by omega⟩
                            obtain ⟨k0, k1⟩ := HPV.out (by omega)
                            rw [Nat.add_sub_cancel] at k0 k1
                            have g0 : w5.drew.cell? ⟨b, off + j * 3, none⟩ = some (.string ⟨qn.toArray⟩) := (HB5.out.cell (p := ⟨b, off + j * 3, none⟩) hb).trans k0
                            have g1 : w5.drew.cell? ⟨b, off + j * 3 + 1, none⟩ = some (.int .i64 qa) := (HB5.out.cell (p := ⟨b, off + j * 3 + 1, none⟩) hb).trans k1
                            have HER4 : Hid (X = if ¬ (Op.bytesLess qn pn = true ∨ qn = pn ∧ qa < pa) then 7 else 0) := by
                              show _ = _
                              rw [HER3.out]
                              congr 1
                              exact propext ⟨fun h => h.2, fun h => ⟨by omega, h⟩⟩
                            clear HER3 HPV k0 k1 hq0
                            as_aux_lemma =>
                              go_upto_region 27 with (fail)
                              have d0 : w5.drew.cell? ⟨T, 0, none⟩ = some (.string ⟨pn.toArray⟩) := e0
                              have d1 : w5.drew.cell? ⟨T, 1, none⟩ = some (.int .i64 pa) := e1
                              have hT : T < w5.drew.heap.size := hz5
                              have hbw : b < w5.drew.heap.size := Nat.lt_of_lt_of_le hb HB5.out.size
                              have HX5 : Hid (Below w.heap.size w w5.drew) := HB5.out.drew
                              have HS0 : Hid (Below w5.drew.heap.size w5.drew w5.drew) := Below.refl _ _
                              have w1 : IntKind.i64.wrap (j : Int) = j := IntWalk.i64_in _ (by omega)
                              have w2' : IntKind.i64.wrap ((j : Int) + 1 - 1) = j := by rw [Int.add_sub_cancel]; exact w1
                              have w4' : (j : Int) < m2 := by omega
                              have w5' : (0 : Int) ≤ (j : Int) := by omega
                              clear e0 e1 HB5 hz5
                              refine region_seqI (S := fun W => Below w5.drew.heap.size w5.drew W) [(true, 0), (true, 1), (true, 2), (true, 3), (true, 4), (true, 5), (true, 6), (true, 7), (true, 8), (true, 9), (true, 10), (true, 12), (true, 13), (true, 14), (true, 15), (true, 16), (true, 17), (true, 18), (true, 19), (false, 11), (false, 20), (false, 21), (false, 22), (true, 23), (true, 24), (true, 25)] (by kernel_rfl) (by kernel_rfl) rfl (by kernel_rfl) HS0.out ?_
                              simp only [seqOps, List.getD_cons_zero, List.getD_cons_succ]
                              generalize w5.drew = wd at HS0 HX5 g0 g1 d0 d1 hT hbw ⊢
                              refine seqI_take (v := .int .i64 ((j : Int) + 1)) rfl (fun W hW => by go_simp) (fun _ _ _ h => h) ?_
                              simp only [Act.put, List.setIfInBounds_toArray, List.set_cons_zero, List.set_cons_succ]
                              refine seqI_take (v := .bool true) rfl (fun W hW => by go_simp) (fun _ _ _ h => h) ?_
                              simp only [Act.put, List.setIfInBounds_toArray, List.set_cons_zero, List.set_cons_succ]
                              refine seqI_take (v := .bool true) rfl (fun W hW => by go_simp) (fun _ _ _ h => h) ?_
                              simp only [Act.put, List.setIfInBounds_toArray, List.set_cons_zero, List.set_cons_succ]
                              refine seqI_take (v := .slice (some ⟨b, off, none⟩) m2 cap2) rfl (fun W hW => by go_simp) (fun _ _ _ h => h) ?_
                              simp only [Act.put, List.setIfInBounds_toArray, List.set_cons_zero, List.set_cons_succ]
                              refine seqI_take (v := .int .i64 ((j : Int) + 1)) rfl (fun W hW => by go_simp) (fun _ _ _ h => h) ?_
                              simp only [Act.put, List.setIfInBounds_toArray, List.set_cons_zero, List.set_cons_succ]
                              refine seqI_take (v := .int .i64 (j : Int)) rfl (fun W hW => by go_simp) (fun _ _ _ h => h) ?_
                              simp only [Act.put, List.setIfInBounds_toArray, List.set_cons_zero, List.set_cons_succ]
                              refine seqI_take (v := .pointer (some ⟨b, off + j * 3, none⟩)) rfl (fun W hW => by go_simp) (fun _ _ _ h => h) ?_
                              simp only [Act.put, List.setIfInBounds_toArray, List.set_cons_zero, List.set_cons_succ]
                              refine seqI_take (v := .pointer (some ⟨b, off + j * 3, none⟩)) rfl (fun W hW => by go_simp) (fun _ _ _ h => h) ?_
                              simp only [Act.put, List.setIfInBounds_toArray, List.set_cons_zero, List.set_cons_succ]
                              refine seqI_take (v := .string ⟨qn.toArray⟩) rfl (fun W hW => by have m0 := (hW.cell (p := ⟨b, off + j * 3, none⟩) hbw).trans g0; go_simp) (fun _ _ _ h => h) ?_
                              simp only [Act.put, List.setIfInBounds_toArray, List.set_cons_zero, List.set_cons_succ]
                              refine seqI_take (v := .pointer (some ⟨T, 0, none⟩)) rfl (fun W hW => by go_simp) (fun _ _ _ h => h) ?_
                              simp only [Act.put, List.setIfInBounds_toArray, List.set_cons_zero, List.set_cons_succ]
                              refine seqI_take (v := .string ⟨pn.toArray⟩) rfl (fun W hW => by have m0 := (hW.cell (p := ⟨T, 0, none⟩) hT).trans d0; go_simp) (fun _ _ _ h => h) ?_
                              simp only [Act.put, List.setIfInBounds_toArray, List.set_cons_zero, List.set_cons_succ]
                              refine seqI_take (v := .slice (some ⟨b, off, none⟩) m2 cap2) rfl (fun W hW => by go_simp) (fun _ _ _ h => h) ?_
                              simp only [Act.put, List.setIfInBounds_toArray, List.set_cons_zero, List.set_cons_succ]
                              refine seqI_take (v := .int .i64 ((j : Int) + 1)) rfl (fun W hW => by go_simp) (fun _ _ _ h => h) ?_
                              simp only [Act.put, List.setIfInBounds_toArray, List.set_cons_zero, List.set_cons_succ]
                              refine seqI_take (v := .int .i64 (j : Int)) rfl (fun W hW => by go_simp) (fun _ _ _ h => h) ?_
                              simp only [Act.put, List.setIfInBounds_toArray, List.set_cons_zero, List.set_cons_succ]
                              refine seqI_take (v := .pointer (some ⟨b, off + j * 3, none⟩)) rfl (fun W hW => by go_simp) (fun _ _ _ h => h) ?_
                              simp only [Act.put, List.setIfInBounds_toArray, List.set_cons_zero, List.set_cons_succ]
                              refine seqI_take (v := .pointer (some ⟨b, off + j * 3 + 1, none⟩)) rfl (fun W hW => by go_simp) (fun _ _ _ h => h) ?_
                              simp only [Act.put, List.setIfInBounds_toArray, List.set_cons_zero, List.set_cons_succ]
                              refine seqI_take (v := .int .i64 qa) rfl (fun W hW => by have m0 := (hW.cell (p := ⟨b, off + j * 3 + 1, none⟩) hbw).trans g1; go_simp) (fun _ _ _ h => h) ?_
                              simp only [Act.put, List.setIfInBounds_toArray, List.set_cons_zero, List.set_cons_succ]
                              refine seqI_take (v := .pointer (some ⟨T, 1, none⟩)) rfl (fun W hW => by go_simp) (fun _ _ _ h => h) ?_
                              simp only [Act.put, List.setIfInBounds_toArray, List.set_cons_zero, List.set_cons_succ]
                              refine seqI_take (v := .int .i64 pa) rfl (fun W hW => by have m0 := (hW.cell (p := ⟨T, 1, none⟩) hT).trans d1; go_simp) (fun _ _ _ h => h) ?_
                              simp only [Act.put, List.setIfInBounds_toArray, List.set_cons_zero, List.set_cons_succ]
                              refine seqI_call 58 #[.string ⟨qn.toArray⟩, .string ⟨pn.toArray⟩] rfl (by go_simp) (cmpS_any qn pn _) ?_
                              rintro e w5 ⟨r1, rfl, hr1, hr2, hw5⟩
                              replace hw5 := hw5.symm
                              subst hw5
                              refine ⟨_, rfl, HS0.out, ?_⟩
                              simp only [Act.put, List.setIfInBounds_toArray, List.set_cons_zero, List.set_cons_succ]
                              refine seqI_call 53 #[.int .i64 qa, .int .i64 pa] rfl (by go_simp) (cmpI_any qa pa _) ?_
                              rintro e w6 ⟨r2, rfl, hr3, hr4, hw6⟩
                              replace hw6 := hw6.symm
                              subst hw6
                              refine ⟨_, rfl, HS0.out, ?_⟩
                              simp only [Act.put, List.setIfInBounds_toArray, List.set_cons_zero, List.set_cons_succ]
                              have HSG := Lib.hid (first_sign hr1 hr2 hr3)
                              clear hr1 hr2 hr3 hr4
                              refine seqI_do rfl (wp_made (v := .slice (some ⟨wd.heap.size, 0, none⟩) 2 2) (w' := wd.alloc (.cells #[.int .i64 r1, .int .i64 r2] 3)) (by go_simp) ⟨ext_alloc HS0.out, ?_⟩)
                              simp only [Act.put, List.setIfInBounds_toArray, List.set_cons_zero, List.set_cons_succ]
                              refine seqI_call 51 #[.slice (some ⟨wd.heap.size, 0, none⟩) 2 2] rfl (by go_simp) (orI_any r1 r2 wd.heap.size _ (by simp) (by go_simp) (by go_simp)) ?_
                              rintro e w7 ⟨rfl, hw7⟩
                              subst hw7
                              refine ⟨_, rfl, ext_alloc HS0.out, ?_⟩
                              simp only [Act.put, List.setIfInBounds_toArray, List.set_cons_zero, List.set_cons_succ]
                              generalize firstE r1 r2 = z at HSG ⊢
                              by_cases hz : 0 ≤ z
                              · obtain rfl : X = 7 := by rw [HER4.out, if_pos (by rw [← HSG.out]; omega)]
                                obtain rfl : R = 7 := HSTOP.out (by decide)
                                refine seqI_take (v := .bool true) rfl (fun W hW => by go_simp) (fun _ _ _ h => h) ?_
                                simp only [Act.put, List.setIfInBounds_toArray, List.set_cons_zero, List.set_cons_succ]
                                refine seqI_take (v := .bool true) rfl (fun W hW => by go_simp) (fun _ _ _ h => h) ?_
                                simp only [Act.put, List.setIfInBounds_toArray, List.set_cons_zero, List.set_cons_succ]
                                refine seqI_take (v := .bool true) rfl (fun W hW => by go_simp) (fun _ _ _ h => h) ?_
                                simp only [Act.put, List.setIfInBounds_toArray, List.set_cons_zero, List.set_cons_succ]
                                refine seqI_nil ?_
                                clear HER4 HNX HSG HSTOP w1 w2' w4' w5'
                                as_aux_lemma =>
                                  go_wp2_with fail
                                  go_ret
                                  exact ⟨rfl, HX5.out.trans ((ext_alloc (Below.refl _ _)).mono HX5.out.size)⟩
                              · have hz' : z < 0 := by omega
                                have HZ2 := Lib.hid (HNX.out (by rw [HER4.out, if_neg (fun h => h (HSG.out.1 hz'))]))
                                refine seqI_take (v := .bool false) rfl (fun W hW => by go_simp) (fun _ _ _ h => h) ?_
                                simp only [Act.put, List.setIfInBounds_toArray, List.set_cons_zero, List.set_cons_succ]
                                refine seqI_take (v := .bool false) rfl (fun W hW => by go_simp) (fun _ _ _ h => h) ?_
                                simp only [Act.put, List.setIfInBounds_toArray, List.set_cons_zero, List.set_cons_succ]
                                refine seqI_take (v := .bool false) rfl (fun W hW => by go_simp) (fun _ _ _ h => h) ?_
                                simp only [Act.put, List.setIfInBounds_toArray, List.set_cons_zero, List.set_cons_succ]
                                refine seqI_nil ?_
                                have HX6 : Hid (Below w.heap.size w (wd.alloc (.cells #[.int .i64 r1, .int .i64 r2] 3))) := HX5.out.trans ((ext_alloc (Below.refl _ _)).mono HX5.out.size)
                                clear HER4 HNX HSG HSTOP hz hz' w1 w2' w4' w5'
                                as_aux_lemma =>
                                  go_wp2_with fail
                                  go_roundw
                                  case rel => exact ⟨j + 1 + 1, by omega, by go_num, HZ2.out, HX6.out⟩
                                  case measure => simp [intOf]; omega
                  · obtain rfl : q = m2 := by omega
                    obtain rfl : R = 0 := HC4.out.2 HZ.out
                    go_wp2_with fail
                    go_ret
                    exact ⟨rfl, HBq.out⟩
end Go.Proofs.YtmbimfmalijjpaaGreatDoor
