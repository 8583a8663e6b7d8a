/- What is proved here: what Words of package number answers: the least of the shortest ways. Condition: the words lie in memory. -/
import Derived.Test.YtbimecknmojnoaaGreatDoorWordTab
import Derived.Test.YtbimecknmojnoaaGreatDoorRegionEnd
import Derived.IntWalk
import Derived.BigQuiet
set_option linter.unusedVariables false
set_option linter.unusedSimpArgs false
namespace Go.Proofs.YtbimecknmojnoaaGreatDoor
open Go.RowKit

def WordsPost (d : List UInt8) (l : List Wd) (w : World) (e : Ending) (w' : World) : Prop :=
  ∃ v is err xs, e = .returned (.tuple #[v, .bool is, .int .i64 err]) ∧ w'.ownsRow w.heap.size 9 1 v xs.length (xs.map encS) ∧ Below w.heap.size w w' ∧
    ((digitsB d 1 30 = false ∧ err = 3 ∧ is = false ∧ xs = []) ∨ (digitsB d 1 30 = true ∧ ∃ c, WSay l c ∧ err = c ∧ ((c ≠ 0 ∧ is = false ∧ xs = []) ∨ (c = 0 ∧ Found l d is xs))))
theorem own_nil (w : World) (base : Nat) (e : TypeId) (size : Nat) : w.ownsRow base e size (.slice none 0 0) 0 [] := ⟨by simp, Or.inl ⟨rfl, rfl⟩⟩

theorem wp_skipped {P : Program} {o : Oper} {a : Act} {w w' : World} {K : Act → World → Prop} {Q : Exit → Act → World → Prop} (h : (execOp a.eval o).run P w = .ok .skip w') (hK : K (a.put o.dst undef) w') : Oper.wp P o a w K Q := by
  unfold Oper.wp; rw [h]; exact hK

set_option maxRecDepth 100000 in
set_option maxHeartbeats 4000000 in
theorem words_any (w : World) (d : List UInt8) (hd : d.length ≤ 100) (a : Option Addr) (n cap : Nat) (l : List Wd) (h : WRow w a n l) (hs : ∀ x ∈ l, x.length ≤ 100) : Calls Tryz.prog 10 #[.string ⟨d.toArray⟩, .slice a n cap] w (WordsPost d l w) := by
  have HBAD : Hid (∀ w', Below w.heap.size w w' → digitsB d 1 30 = false → WordsPost d l w (.returned (.tuple #[.slice none 0 0, .bool false, .int .i64 3])) w') := fun w' h1 h2 => ⟨_, _, _, [], rfl, own_nil _ _ _ _, h1, Or.inl ⟨h2, rfl, rfl, rfl⟩⟩
  have HERR : Hid (∀ c w', Below w.heap.size w w' → digitsB d 1 30 = true → WSay l c → c ≠ 0 → WordsPost d l w (.returned (.tuple #[.slice none 0 0, .bool false, .int .i64 c])) w') := fun c w' h1 h2 h3 h4 => ⟨_, _, _, [], rfl, own_nil _ _ _ _, h1, Or.inr ⟨h2, c, h3, rfl, Or.inl ⟨h4, rfl, rfl⟩⟩⟩
  have HFND : Hid (∀ v is xs w', Below w.heap.size w w' → digitsB d 1 30 = true → WSay l 0 → w'.ownsRow w.heap.size 9 1 v xs.length (xs.map encS) → Found l d is xs → WordsPost d l w (.returned (.tuple #[v, .bool is, .int .i64 0])) w') := fun v is xs w' h1 h2 h3 h4 h5 => ⟨v, is, 0, xs, rfl, h4, h1, Or.inr ⟨h2, 0, h3, rfl, Or.inr ⟨rfl, h5⟩⟩⟩
  obtain ⟨i0, hi, hz0, hz1, hz2⟩ := info_parts Tryz.infoStr
  obtain ⟨j0, hj, hy0, hy1, hy2⟩ := info_parts Tryz.infoInt
  have HR := Lib.hid h
  have HSS := Lib.hid hs
  clear h hs
  go_enter Tryz.func10, Tryz.ntmps10
  go_wp2_with fail
  refine (digitsOf_l d 1 30 _ (by omega)).mono ?_
  rintro e w1 ⟨rfl, hb1⟩
  have HB1 := Lib.hid hb1
  clear hb1
  cases hg : digitsB d 1 30 with
  | false =>
    have HG := Lib.hid hg
    clear hg
    go_wp2_with fail
    go_ret3
    exact HBAD.out _ HB1.out HG.out
  | true =>
  have HG := Lib.hid hg
  have hd30 : 1 ≤ d.length ∧ d.length ≤ 30 := by have := (digitsB_iff d 1 30).1 hg; omega
  obtain ⟨hd1, hd30⟩ := hd30
  clear hg hd HBAD
  as_aux_lemma =>
    go_wp2_with fail
    refine (checkWords_any w1 a n cap l (HR.out.below HB1.out) HSS.out).mono ?_
    rintro e w2 ⟨c, rfl, hsay, hb2⟩
    have HSAY := Lib.hid hsay
    have HB2 := Lib.hid (ext_trans HB1.out hb2)
    have HR2 := Lib.hid (HR.out.below (ext_trans HB1.out hb2))
    clear hsay hb2 HB1
    by_cases hc0 : c = 0
    · subst hc0
      have HL : Hid (n = l.length) := HR2.out.1
      have hn2 := HR2.out.2.1
      have HBN : Hid (i0.bytes * n ≤ 281474976710656) := by show _ ≤ _; rw [hz2]; omega
      have HBM : Hid (j0.bytes * (d.length + 1) ≤ 281474976710656) := by show _ ≤ _; rw [hy2]; omega
      have HRR := Lib.hid HR2.out.2.2
      obtain ⟨hne, hso, hky⟩ := right_words HSAY.out
      have HNE := Lib.hid hne
      have HSO := Lib.hid hso
      have HKY := Lib.hid hky
      have HNM : Hid (n ≤ maxLen) := by show _ ≤ maxLen; unfold maxLen; omega
      have HDM : Hid (d.length + 1 ≤ maxLen) := by show _ ≤ maxLen; unfold maxLen; omega
      clear hne hso hky HERR HR HR2 HSS
      as_aux_lemma =>
        go_wp2_with (at_make; refine wpList_make_full _ rfl (.tmp 28) (.tmp 28) 27 rfl w2.heap.size 9 i0 (.string ⟨#[]⟩) 1 Tryz.underlying27 hi hz0 hz1 .i64 .i64 _ _ n (by simp [Act.eval]) (by simp [Act.eval]) rfl rfl HBN.out HNM.out (Nat.le_refl _) ?_; intro w3 hown3 hgr3)
        have HB3 := Lib.hid (below_of_grown_none hgr3)
        have HO : Hid (FillRow w3 w2.heap.size 9 w2.heap.size n 0 (l.map fun x => encS (keyW x)) (.string ⟨#[]⟩)) := FillRow.startS (by rw [List.length_map, ← HL.out]) hown3
        clear hown3 hgr3
        go_loopw [32] (fun i wr => ∃ k : Nat, k ≤ n ∧ i = .int .i64 k ∧ Hid (Below w2.heap.size w2 wr) ∧ Hid (FillRow wr w2.heap.size 9 w2.heap.size n k (l.map fun x => encS (keyW x)) (.string ⟨#[]⟩))) (fun i _ => n - (intOf i).toNat)
        case atStart => exact ⟨0, Nat.zero_le _, rfl, HB3.out, HO.out⟩
        case round =>
          obtain ⟨k, hk, rfl, HB, HO2⟩ := hrel
          by_cases hlt : k < n
          · rcases HRR.out with h0 | ⟨b, off, rfl, hb, hc⟩
            · omega
            have hll : k < l.length := by rw [← HL.out]; exact hlt
            have c0 := (HB.out.cell (p := ⟨b, off + k, none⟩) hb).trans (hc k hlt)
            have HK : Hid (keysR (l.getD k []) = (0, keyW (l.getD k [])) ∧ (l.getD k []).length ≤ 15) := by
              have := HKY.out l[k] (List.getElem_mem hll)
              rw [show l.getD k [] = l[k] by simp [hll]]
              exact ⟨this.2, this.1⟩
            have HV : Hid ((l.map fun x => encS (keyW x))[k]? = some (.string ⟨(keyW (l.getD k [])).toArray⟩)) := by show _ = _; simp [encS, hll]
            clear hc
            generalize l.getD k [] = x at c0 HK HV
            as_aux_lemma =>
              go_wp2_with fail
              refine (keys_any x (by have := HK.out.2; omega) _).mono ?_
              rw [HK.out.1]
              rintro e w4 ⟨rfl, hb4⟩
              have HB4 := Lib.hid (ext_trans HB.out hb4)
              have HO4 := Lib.hid (HO2.out.below hb4)
              obtain ⟨hst, ⟨u, hu⟩, hf⟩ := HO4.out.step hlt HV.out
              have ST := Lib.hid hst
              clear hst hb4 c0
              as_aux_lemma =>
                go_wp2_with fail
                go_roundw
                case rel => exact ⟨k + 1, by omega, by go_num, ext_setCell HB4.out (Nat.le_refl _), ST.out⟩
                case measure => simp [intOf]; omega
          · obtain rfl : k = n := by omega
            have HKC : Hid (∀ j, j < k → w2.heap.size < wr.heap.size ∧ wr.cell? ⟨w2.heap.size, j, none⟩ = some (.string ⟨(keyW (l.getD j [])).toArray⟩)) := fun j hj => by
              have h9 := HO2.out.done
              have hjl : j < l.length := by rw [← HL.out]; exact hj
              refine ⟨?_, ?_⟩
              · obtain ⟨m9, rfl⟩ : ∃ m9, k = m9 + 1 := ⟨k - 1, by omega⟩
                obtain ⟨g9, c9, he, -, h8⟩ := own_row1 h9
                simp at he
                omega
              · rw [h9.cellAt j (by omega)]; simp [encS, hjl]
            have HRB : Hid (k = 0 ∨ ∃ b off, a = some ⟨b, off, none⟩ ∧ b < wr.heap.size ∧ ∀ i, i < k → wr.cell? ⟨b, off + i, none⟩ = some (.string ⟨(l.getD i []).toArray⟩)) := HRR.out.imp id (by rintro ⟨b, off, ha, hl, hc⟩; exact ⟨b, off, ha, Nat.lt_of_lt_of_le hl HB.out.size, fun i hi => (HB.out.cell (p := ⟨b, off + i, none⟩) hl).trans (hc i hi)⟩)
            have HBA : Hid (Below w.heap.size w wr) := ext_trans HB2.out HB.out
            obtain ⟨wA, rfl⟩ : ∃ wA : World, wA = wr := ⟨_, rfl⟩
            clear HRR HO2 HB HB3 HO HB2 HBN HNM hi hz0 hz1 hz2
            generalize w2.heap.size = g1 at HKC ⊢
            as_aux_lemma =>
              go_wp2_with (at_make; refine wpList_make_full _ rfl (.tmp 48) (.tmp 48) 22 rfl wA.heap.size 3 j0 (.int .i64 0) 1 Tryz.underlying22 hj hy0 hy1 .i64 .i64 ((d.length : Int) + 1) ((d.length : Int) + 1) (d.length + 1) (by simp [Act.eval]) (by simp [Act.eval]) (by omega) (by omega) HBM.out HDM.out (Nat.le_refl _) ?_; intro w3 hown3 hgr3)
              have HB3 := Lib.hid (below_of_grown_none hgr3)
              have HT3 : Hid (TabRow w3 wA.heap.size wA.heap.size (d.length + 1) fun _ => 0) := TabRow.start hown3
              clear hown3 hgr3
              go_loopw [12] (fun i wr => ∃ (m : Nat) (f : Nat → Nat), m ≤ d.length ∧ i = .int .i64 ((m : Int) - 1) ∧ Hid (Below wA.heap.size wA wr) ∧ Hid (TabRow wr wA.heap.size wA.heap.size (d.length + 1) f) ∧ Hid (∀ j, m ≤ j → j ≤ d.length → f j = fw l d j)) (fun i _ => (intOf i + 1).toNat)
              case atStart => exact ⟨d.length, _, Nat.le_refl _, rfl, HB3.out, HT3.out, fun j h1 h2 => by rw [show j = d.length by omega, fw_end]⟩
              case round =>
                obtain ⟨m, f, hm, rfl, HB, HT, HF⟩ := hrel
                by_cases hm0 : m = 0
                · subst hm0
                  have t0 := HT.out.at (show 0 < d.length + 1 by omega)
                  have hf0 : f 0 = fw l d 0 := HF.out 0 (by omega) (by omega)
                  by_cases h30 : fw l d 0 ≤ 30
                  · have HFO : Hid (Found l d true (gr l d 0)) := found_few HNE.out HSO.out h30
                    have hx30 : ¬ (31 ≤ ((f 0 : Nat) : Int)) := by omega
                    have hgo : fw l d 0 ≤ 30 ∧ ([] : List Wd) ++ gr l d 0 = gr l d 0 := ⟨h30, rfl⟩
                    have HGO := Lib.hid hgo
                    obtain ⟨i0, hi, hz0, hz1, hz2⟩ := info_parts Tryz.infoStr
                    clear hf0 h30 hgo HB3 HT3
                    as_aux_lemma =>
                      go_wp2_with fail
                      obtain ⟨wo, rfl⟩ : ∃ wo : World, wo = wr := ⟨_, rfl⟩
                      go_loopw [15, 16] (fun v i wr => ∃ (j : Nat) (xs : List Wd), j ≤ d.length ∧ i = .int .i64 j ∧ Hid (fw l d j ≤ 30 ∧ xs ++ gr l d j = gr l d 0) ∧ Hid (wr.ownsRow wo.heap.size 9 1 v xs.length (xs.map encS)) ∧ Hid (Below wo.heap.size wo wr) ∧ xs.length ≤ j) (fun _ i _ => d.length - (intOf i).toNat)
                      case atStart => exact ⟨0, [], Nat.zero_le _, rfl, HGO.out, own_nil _ _ _ _, Below.refl _ _, Nat.le_refl _⟩
                      case round =>
                        obtain ⟨j, xs, hjd, rfl, HGR, HOW, HBO, hxj⟩ := hrel
                        by_cases hjl : j < d.length
                        · obtain ⟨wi, rfl⟩ : ∃ wi : World, wi = wr := ⟨_, rfl⟩
                          have HEX := Lib.hid (fits_some HNE.out hjl HGR.out.1)
                          as_aux_lemma =>
                            go_wp2_with fail
                            go_loopw [15, 16, 98] (fun v' i' qv wr => ∃ q : Nat, q ≤ k ∧ v' = u15 ∧ i' = .int .i64 j ∧ qv = .int .i64 q ∧ Hid (∀ t, t < q → fits l d j (l.getD t []) = false) ∧ Hid (Below wi.heap.size wi wr)) (fun _ _ qv _ => k - (intOf qv).toNat)
                            case atStart => exact ⟨0, Nat.zero_le _, rfl, rfl, rfl, fun t ht => by omega, Below.refl _ _⟩
                            case round =>
                              obtain ⟨q, hq, rfl, rfl, rfl, HNF, HBI⟩ := hrel
                              by_cases hlt : q < k
                              · obtain ⟨kz, kc⟩ := HKC.out q hlt
                                have HBW : Hid (Below wA.heap.size wA wr) := ext_trans HB.out (ext_trans HBO.out HBI.out)
                                have c0 := (HBW.out.cell (p := ⟨g1, q, none⟩) kz).trans kc
                                have kz2 : g1 < wr.heap.size := Nat.lt_of_lt_of_le kz HBW.out.size
                                have hll : q < l.length := by rw [← HL.out]; exact hlt
                                have HPOS : Hid (1 ≤ (l.getD q []).length) := by
                                  have := HNE.out l[q] (List.getElem_mem hll)
                                  rw [show l.getD q [] = l[q] by simp [hll]]
                                  exact List.length_pos_iff.2 this
                                have HTR : Hid (TabRow wr wA.heap.size wA.heap.size (d.length + 1) f) := (HT.out.below HBO.out).below HBI.out
                                have HGS : Hid (fits l d j (l.getD q []) = true → gr l d j = l.getD q [] :: gr l d (j + (l.getD q []).length)) := fun h => gr_step HNE.out hjl hll h HNF.out
                                have HNX : Hid (fits l d j (l.getD q []) = false → ∀ t, t < q + 1 → fits l d j (l.getD t []) = false) := fun h t ht => by
                                  rcases Nat.lt_succ_iff_lt_or_eq.1 ht with h9 | rfl
                                  · exact HNF.out t h9
                                  · exact h
                                have HXR : Hid (∃ b off, a = some ⟨b, off, none⟩ ∧ b < wr.heap.size ∧ wr.cell? ⟨b, off + q, none⟩ = some (.string ⟨(l.getD q []).toArray⟩)) := by
                                  rcases HRB.out with h0 | ⟨b, off, ha, hb, hc⟩
                                  · omega
                                  · exact ⟨b, off, ha, Nat.lt_of_lt_of_le hb HBW.out.size, (HBW.out.cell (p := ⟨b, off + q, none⟩) hb).trans (hc q hlt)⟩
                                clear kc kz HNF
                                generalize l.getD q [] = x at c0 HPOS HGS HNX HXR
                                have hpos := HPOS.out
                                have hkl := keyW_len x
                                have hji : (0 : Int) ≤ j := by omega
                                have hji2 : (j : Int) ≤ d.length := by omega
                                as_aux_lemma =>
                                  go_upto_region 31 with (fail)
                                  cases hp : Lib.hasPrefix (d.drop j) (keyW x) with
                                  | false =>
                                    have HNX2 := Lib.hid (HNX.out (by unfold fits; rw [hp]; rfl))
                                    have HHP : Hid (∀ W, Calls Tryz.prog 75 #[.string ((⟨d.toArray⟩ : ByteArray).extract j d.length), .string ⟨(keyW x).toArray⟩] W fun e w' => e = .returned (.bool false) ∧ W = w') := fun W => by
                                      rw [extract_drop]
                                      have := hasPrefix_l (d.drop j) (keyW x) W
                                      rw [hp] at this
                                      exact this
                                    clear hp
                                    as_aux_lemma =>
                                      go_quiet (first | (go_at_call 75; refine Calls.quiet_of_same (v := .bool false) ((HHP.out _).mono ?_); rintro e w' ⟨rfl, rfl⟩; exact ⟨rfl, rfl⟩))
                                      go_wp2_with fail
                                      go_roundw
                                      case rel => exact ⟨q + 1, by omega, rfl, rfl, by go_num, HNX2.out, (by (try show Below _ _ _); repeat (with_reducible first | exact Below.refl _ _ | assumption | exact Hid.out (by assumption) | refine ext_alloc ?_ | refine ext_drewN ?_ | refine ext_drew ?_ | refine ext_setCell ?_ (Nat.le_refl _) | refine ext_setCell ?_ (Nat.le_succ _) | refine ext_trans ?_ (by assumption) | (refine ext_setCell ?_ (by simp)) | (refine ext_setCell ?_ (by simp at *; omega))))⟩
                                      case measure => first | (simp [intOf]; done) | (simp [intOf]; omega)
                                  | true =>
                                    have hlen := pre_len hp
                                    rw [keyW_len, List.length_drop] at hlen
                                    have t1 := HTR.out.at (show j < d.length + 1 by omega)
                                    have t2 := HTR.out.at (show j + x.length < d.length + 1 by omega)
                                    have hA : f (j + x.length) = fw l d (j + x.length) := HF.out _ (by omega) (by omega)
                                    have hB : f j = fw l d j := HF.out _ (by omega) (by omega)
                                    have hA2 : f (j + x.length) ≤ 31 := by rw [hA]; exact fw_le _ _ _
                                    have HFI : Hid (fits l d j x = decide (f (j + x.length) + 1 = f j)) := by
                                      show _ = _
                                      unfold fits
                                      rw [hp, Bool.true_and, hA, hB]
                                      rfl
                                    have HHP : Hid (∀ W, Calls Tryz.prog 75 #[.string ((⟨d.toArray⟩ : ByteArray).extract j d.length), .string ⟨(keyW x).toArray⟩] W fun e w' => e = .returned (.bool true) ∧ W = w') := fun W => by
                                      rw [extract_drop]
                                      have := hasPrefix_l (d.drop j) (keyW x) W
                                      rw [hp] at this
                                      exact this
                                    have HFA : Hid (f (j + x.length) = fw l d (j + x.length)) := hA
                                    have HFB : Hid (f j = fw l d j) := hB
                                    clear hp hA hB
                                    generalize f (j + x.length) = A at t2 hA2 HFI HFA
                                    generalize f j = B at t1 HFI HFB
                                    have i1 : ¬ ((d.length : Int) + 1 ≤ j) := by omega
                                    have i0' : (j : Int) < (d.length : Int) + 1 := by omega
                                    have i2 : (j : Int) + x.length < (d.length : Int) + 1 := by omega
                                    have i3 : (0 : Int) ≤ (j : Int) + x.length := by omega
                                    have i4 : ((j : Int) + x.length).toNat = j + x.length := by omega
                                    have i5 : IntKind.i64.wrap ((j : Int) + x.length) = (j : Int) + x.length := IntWalk.i64_in _ (by omega)
                                    have i6 : IntKind.i64.wrap ((A : Int) + 1) = (A : Int) + 1 := IntWalk.i64_in _ (by omega)
                                    have hzA : wA.heap.size < wr.heap.size := (HTR.out.lt (by omega)).2
                                    by_cases hab : A + 1 = B
                                    · have HGS2 := Lib.hid (HGS.out (by rw [HFI.out, decide_eq_true hab]))
                                      have hab2 : (A : Int) + 1 = B := by omega
                                      have HAL : Hid (fw l d (j + x.length) ≤ 30) := by
                                        show _ ≤ _
                                        have h1 := HFA.out
                                        have h2 := HFB.out
                                        have h3 := HGR.out.1
                                        omega
                                      clear hab
                                      as_aux_lemma =>
                                        go_quiet (first | (go_at_call 75; refine Calls.quiet_of_same (v := .bool true) ((HHP.out _).mono ?_); rintro e w' ⟨rfl, rfl⟩; exact ⟨rfl, rfl⟩))
                                        generalize hWQ : World.drewN wr _ = wq
                                        have hbq : Below wr.heap.size wr wq := by rw [← hWQ]; exact ext_drewN (Below.refl _ _)
                                        clear hWQ
                                        obtain ⟨b, off, rfl, hb, cx⟩ := HXR.out
                                        have cx2 := (hbq.cell (p := ⟨b, off + q, none⟩) hb).trans cx
                                        have hbq2 : b < wq.heap.size := Nat.lt_of_lt_of_le hb hbq.size
                                        have HBQ := Lib.hid (ext_trans HBO.out (ext_trans HBI.out hbq))
                                        have HOQ := Lib.hid (own_keep HOW.out (ext_trans HBI.out hbq))
                                        have HOA := Lib.hid (HOQ.out.alloc (.cells #[.string ⟨x.toArray⟩] 9))
                                        have hwoq := HBQ.out.size
                                        clear hbq cx hb HOW HBO HBI t1 t2 c0 HXR
                                        go_wp2_with (at_builtin; refine wpList_append_own _ rfl (.tmp 123) (.tmp 128) 27 rfl wo.heap.size 9 i0 (.string ⟨#[]⟩) 1 16 Tryz.underlying27 hi hz0 hz1 hz2 rfl (by decide) _ xs.length _ rfl HOA.out ⟨wq.heap.size, 0, none⟩ 1 1 [.string ⟨x.toArray⟩] rfl rfl (news_one (by go_simp)) (by simp [Value.oneCell']) (by simp only [maxLen]; omega) (by omega) (by simp; omega) ?_; intro v6 w6 hown6 hgr6 _)
                                        have hrow : ∀ b, u15.ownBlock = some b → wo.heap.size ≤ b := fun b e => (HOQ.out.lt b e).1
                                        have hup : Below wo.heap.size wq w6 := upto_grown hgr6 hwoq hrow
                                        have HOZ : Hid (w6.ownsRow wo.heap.size 9 1 v6 (xs ++ [x]).length ((xs ++ [x]).map encS)) := by
                                          show World.ownsRow _ _ _ _ _ _ _
                                          rw [show (xs ++ [x]).map encS = xs.map encS ++ [.string ⟨x.toArray⟩] by simp [encS], List.length_append]
                                          exact hown6
                                        have HBZ : Hid (Below wo.heap.size wo w6) := HBQ.out.trans hup
                                        have HGZ : Hid ((xs ++ [x]) ++ gr l d (j + x.length) = gr l d 0) := by
                                          show _ = _
                                          rw [← HGR.out.2, HGS2.out, List.append_assoc]
                                          rfl
                                        clear hown6 hgr6 hup hrow
                                        refine ⟨⟨j + x.length, xs ++ [x], by omega, by go_num, ⟨HAL.out, HGZ.out⟩, HOZ.out, HBZ.out, ?_⟩, ?_⟩
                                        · rw [List.length_append, List.length_singleton]; omega
                                        · simp [intOf]; omega
                                    · have hab2 : ¬ ((A : Int) + 1 = B) := by omega
                                      have HNX2 := Lib.hid (HNX.out (by rw [HFI.out, decide_eq_false hab]))
                                      clear hab
                                      as_aux_lemma =>
                                        go_quiet (first | (go_at_call 75; refine Calls.quiet_of_same (v := .bool true) ((HHP.out _).mono ?_); rintro e w' ⟨rfl, rfl⟩; exact ⟨rfl, rfl⟩))
                                        go_wp2_with fail
                                        go_roundw
                                        case rel => exact ⟨q + 1, by omega, rfl, rfl, by go_num, HNX2.out, (by (try show Below _ _ _); repeat (with_reducible first | exact Below.refl _ _ | assumption | exact Hid.out (by assumption) | refine ext_alloc ?_ | refine ext_drewN ?_ | refine ext_drew ?_ | refine ext_setCell ?_ (Nat.le_refl _) | refine ext_setCell ?_ (Nat.le_succ _) | refine ext_trans ?_ (by assumption) | (refine ext_setCell ?_ (by simp)) | (refine ext_setCell ?_ (by simp at *; omega))))⟩
                                        case measure => first | (simp [intOf]; done) | (simp [intOf]; omega)
                              · exfalso
                                obtain ⟨t, ht, hf⟩ := HEX.out
                                rw [HNF.out t (by have := HL.out; omega)] at hf
                                cases hf
                        · obtain rfl : j = d.length := by omega
                          have HXE : Hid (xs = gr l d 0) := by
                            have := HGR.out.2
                            rw [gr_end, List.append_nil] at this
                            exact this
                          have HBZ := Lib.hid (ext_trans HBA.out (ext_trans HB.out HBO.out))
                          have HOZ := Lib.hid (own_le HOW.out (Nat.le_trans HBA.out.size HB.out.size))
                          clear HGR HOW HBO
                          as_aux_lemma =>
                            go_wp2_with fail
                            go_ret3
                            exact HFND.out _ _ _ _ HBZ.out HG.out HSAY.out HOZ.out (by rw [HXE.out]; exact HFO.out)
                  · have HFO : Hid (Found l d false []) := found_none HNE.out hd30 h30
                    have hx30 : 31 ≤ ((f 0 : Nat) : Int) := by omega
                    clear hf0 h30
                    as_aux_lemma =>
                      go_wp2_with fail
                      go_ret3
                      exact HFND.out _ _ _ _ (ext_trans HBA.out HB.out) HG.out HSAY.out (own_nil _ _ _ _) HFO.out
                · obtain ⟨m, rfl⟩ : ∃ m', m = m' + 1 := ⟨m - 1, by omega⟩
                  rw [show ((m + 1 : Nat) : Int) - 1 = m by omega]
                  have hlt2 := (HT.out.lt (by omega)).2
                  have t0 := HT.out.at (show m < d.length + 1 by omega)
                  obtain ⟨hset, t1⟩ := HT.out.set m 31
                  have HT2 := Lib.hid hset
                  have HB2 := Lib.hid (ext_setCell HB.out (Nat.le_refl _) (p := ⟨wA.heap.size, m, none⟩) (u := .int .i64 31))
                  have HF2 : Hid (∀ j, m < j → j ≤ d.length → (if j = m then 31 else f j) = fw l d j) := fun j h1 h2 => by rw [if_neg (by omega)]; exact HF.out j h1 h2
                  clear hset HF HT HB HB3 HT3
                  as_aux_lemma =>
                    go_wp2_with fail
                    obtain ⟨wo, rfl⟩ : ∃ wo : World, wo = wr := ⟨_, rfl⟩
                    go_loopw [62] (fun i wr => ∃ (q : Nat) (f : Nat → Nat), q ≤ k ∧ i = .int .i64 q ∧ Hid (Below wA.heap.size wA wr) ∧ Hid (TabRow wr wA.heap.size wA.heap.size (d.length + 1) f) ∧ Hid (f m = fwTo l d m q ∧ ∀ j, m < j → j ≤ d.length → f j = fw l d j)) (fun i _ => k - (intOf i).toNat)
                    case atStart => exact ⟨0, _, Nat.zero_le _, rfl, HB2.out, HT2.out, by rw [if_pos rfl]; rfl, HF2.out⟩
                    case round =>
                      obtain ⟨q, f2, hq, rfl, HB, HT, HF⟩ := hrel
                      by_cases hlt : q < k
                      · obtain ⟨kz, kc⟩ := HKC.out q hlt
                        have c0 := (HB.out.cell (p := ⟨g1, q, none⟩) kz).trans kc
                        have kz2 : g1 < wr.heap.size := Nat.lt_of_lt_of_le kz HB.out.size
                        have hll : q < l.length := by rw [← HL.out]; exact hlt
                        have HST : Hid (fwTo l d m (q + 1) = fwF l d m (fwTo l d m q) (l.getD q [])) := fwTo_succ hll
                        have HPOS : Hid (1 ≤ (l.getD q []).length) := by
                          have := HNE.out l[q] (List.getElem_mem hll)
                          rw [show l.getD q [] = l[q] by simp [hll]]
                          exact List.length_pos_iff.2 this
                        clear kc kz
                        generalize l.getD q [] = x at c0 HST HPOS
                        as_aux_lemma =>
                          go_wp2_with fail
                          rw [extract_drop]
                          refine (hasPrefix_l _ _ _).mono ?_
                          rintro e w4 ⟨rfl, rfl⟩
                          cases hp : Lib.hasPrefix (d.drop m) (keyW x) with
                          | false =>
                            have HF3 : Hid (f2 m = fwTo l d m (q + 1) ∧ ∀ j, m < j → j ≤ d.length → f2 j = fw l d j) := ⟨by rw [HST.out, fwF, hp]; exact HF.out.1, HF.out.2⟩
                            clear hp
                            as_aux_lemma =>
                              go_wp2_with fail
                              go_roundw
                              case rel => exact ⟨q + 1, f2, by omega, by go_num, HB.out, HT.out, HF3.out⟩
                              case measure => simp [intOf]; omega
                          | true =>
                            have hlen := pre_len hp
                            rw [keyW_len, List.length_drop] at hlen
                            have hpos := HPOS.out
                            have hkl := keyW_len x
                            have t1 := HT.out.at (show m < d.length + 1 by omega)
                            have t2 := HT.out.at (show m + x.length < d.length + 1 by omega)
                            have hzt := (HT.out.lt (by omega)).2
                            have HV : Hid (min (f2 m) (f2 (m + x.length) + 1) = fwTo l d m (q + 1)) := by
                              show _ = _
                              rw [HST.out, fwF, if_pos hp, HF.out.1, HF.out.2 (m + x.length) (by omega) (by omega)]
                            have hle1 : f2 m ≤ 31 := by rw [HF.out.1]; exact (fold_min (fun w => Lib.hasPrefix (d.drop m) (keyW w)) (fun w => fw l d (m + w.length) + 1) (l.take q) 31).1
                            have hle2 : f2 (m + x.length) ≤ 31 := by rw [HF.out.2 (m + x.length) (by omega) (by omega)]; exact fw_le _ _ _
                            clear hp HST HPOS
                            generalize hVV : fwTo l d m (q + 1) = V at HV
                            have HVV := Lib.hid hVV
                            clear hVV
                            obtain ⟨hset, t4⟩ := HT.out.set m V
                            have HT5 := Lib.hid hset
                            have HB5 := Lib.hid (ext_setCell HB.out (Nat.le_refl _) (p := ⟨wA.heap.size, m, none⟩) (u := .int .i64 V))
                            have HF5 : Hid ((if m = m then V else f2 m) = V ∧ ∀ j, m < j → j ≤ d.length → (if j = m then V else f2 j) = fw l d j) := ⟨if_pos rfl, fun j h1 h2 => by rw [if_neg (by omega)]; exact HF.out.2 j h1 h2⟩
                            clear hset HT HB HF
                            generalize f2 m = A at t1 HV hle1
                            generalize f2 (m + x.length) = B at t2 HV hle2
                            have HS0 : Hid (wr.drew.cell? ⟨wA.heap.size, m, none⟩ = some (.int .i64 A) ∧ wr.drew.cell? ⟨wA.heap.size, m + x.length, none⟩ = some (.int .i64 B)) := ⟨t1, t2⟩
                            have HV2 : Hid (((V : Nat) : Int) = min (A : Int) ((B : Int) + 1)) := by show _ = _; rw [← HV.out]; omega
                            have i1 : ¬ ((d.length : Int) + 1 ≤ m) := by omega
                            have i2 : (m : Int) + x.length < (d.length : Int) + 1 := by omega
                            have i3 : (0 : Int) ≤ (m : Int) + x.length := by omega
                            have i4 : ((m : Int) + x.length).toNat = m + x.length := by omega
                            have i5 : IntKind.i64.wrap ((m : Int) + x.length) = (m : Int) + x.length := IntWalk.i64_in _ (by omega)
                            have i6 : IntKind.i64.wrap ((B : Int) + 1) = (B : Int) + 1 := IntWalk.i64_in _ (by omega)
                            as_aux_lemma =>
                              go_upto_region 21 with (fail)
                              refine region_lastI (S := fun W => W.cell? ⟨wA.heap.size, m, none⟩ = some (.int .i64 A) ∧ W.cell? ⟨wA.heap.size, m + x.length, none⟩ = some (.int .i64 B)) [(true, 0), (true, 1), (true, 2), (true, 3), (true, 4), (true, 5), (true, 6), (true, 7), (true, 8), (true, 9), (true, 10), (true, 11), (true, 12), (true, 13), (true, 14), (true, 15)] (by kernel_rfl) rfl rfl (by kernel_rfl) (by kernel_rfl) rfl (by kernel_rfl) HS0.out ?_
                              simp only [seqOps, List.dropLast, List.getD_cons_zero, List.getD_cons_succ]
                              refine seqI_take (v := .slice (some ⟨wA.heap.size, 0, none⟩) (d.length + 1) (d.length + 1)) rfl (fun W hW => by clear hW; go_simp) (fun _ _ _ h => h) ?_
                              simp only [Act.put, List.setIfInBounds_toArray, List.set_cons_zero, List.set_cons_succ]
                              refine seqI_take (v := .int .i64 m) rfl (fun W hW => by clear hW; go_simp) (fun _ _ _ h => h) ?_
                              simp only [Act.put, List.setIfInBounds_toArray, List.set_cons_zero, List.set_cons_succ]
                              refine seqI_take (v := .slice (some ⟨wA.heap.size, 0, none⟩) (d.length + 1) (d.length + 1)) rfl (fun W hW => by clear hW; go_simp) (fun _ _ _ h => h) ?_
                              simp only [Act.put, List.setIfInBounds_toArray, List.set_cons_zero, List.set_cons_succ]
                              refine seqI_take (v := .int .i64 m) rfl (fun W hW => by clear hW; go_simp) (fun _ _ _ h => h) ?_
                              simp only [Act.put, List.setIfInBounds_toArray, List.set_cons_zero, List.set_cons_succ]
                              refine seqI_take (v := .pointer (some ⟨wA.heap.size, m, none⟩)) rfl (fun W hW => by clear hW; go_simp) (fun _ _ _ h => h) ?_
                              simp only [Act.put, List.setIfInBounds_toArray, List.set_cons_zero, List.set_cons_succ]
                              refine seqI_take (v := .int .i64 A) rfl (fun W hW => by obtain ⟨m0, m1⟩ := hW; go_simp) (fun _ _ _ h => h) ?_
                              simp only [Act.put, List.setIfInBounds_toArray, List.set_cons_zero, List.set_cons_succ]
                              refine seqI_take (v := .slice (some ⟨wA.heap.size, 0, none⟩) (d.length + 1) (d.length + 1)) rfl (fun W hW => by clear hW; go_simp) (fun _ _ _ h => h) ?_
                              simp only [Act.put, List.setIfInBounds_toArray, List.set_cons_zero, List.set_cons_succ]
                              refine seqI_take (v := .int .i64 m) rfl (fun W hW => by clear hW; go_simp) (fun _ _ _ h => h) ?_
                              simp only [Act.put, List.setIfInBounds_toArray, List.set_cons_zero, List.set_cons_succ]
                              refine seqI_take (v := .string ⟨(keyW x).toArray⟩) rfl (fun W hW => by clear hW; go_simp) (fun _ _ _ h => h) ?_
                              simp only [Act.put, List.setIfInBounds_toArray, List.set_cons_zero, List.set_cons_succ]
                              refine seqI_take (v := .int .i64 x.length) rfl (fun W hW => by clear hW; go_simp) (fun _ _ _ h => h) ?_
                              simp only [Act.put, List.setIfInBounds_toArray, List.set_cons_zero, List.set_cons_succ]
                              refine seqI_take (v := .int .i64 ((m : Int) + x.length)) rfl (fun W hW => by clear hW; go_simp) (fun _ _ _ h => h) ?_
                              simp only [Act.put, List.setIfInBounds_toArray, List.set_cons_zero, List.set_cons_succ]
                              refine seqI_take (v := .pointer (some ⟨wA.heap.size, m + x.length, none⟩)) rfl (fun W hW => by clear hW; go_simp) (fun _ _ _ h => h) ?_
                              simp only [Act.put, List.setIfInBounds_toArray, List.set_cons_zero, List.set_cons_succ]
                              refine seqI_take (v := .int .i64 B) rfl (fun W hW => by obtain ⟨m0, m1⟩ := hW; go_simp) (fun _ _ _ h => h) ?_
                              simp only [Act.put, List.setIfInBounds_toArray, List.set_cons_zero, List.set_cons_succ]
                              refine seqI_take (v := .int .i64 ((B : Int) + 1)) rfl (fun W hW => by clear hW; go_simp) (fun _ _ _ h => h) ?_
                              simp only [Act.put, List.setIfInBounds_toArray, List.set_cons_zero, List.set_cons_succ]
                              refine seqI_take (v := .int .i64 V) rfl (fun W hW => by clear hW; rw [HV2.out]; go_simp) (fun _ _ _ h => h) ?_
                              simp only [Act.put, List.setIfInBounds_toArray, List.set_cons_zero, List.set_cons_succ]
                              refine seqI_take (v := .pointer (some ⟨wA.heap.size, m, none⟩)) rfl (fun W hW => by clear hW; go_simp) (fun _ _ _ h => h) ?_
                              simp only [Act.put, List.setIfInBounds_toArray, List.set_cons_zero, List.set_cons_succ]
                              refine seqI_nil (Or.inl ?_)
                              show Oper.wp _ (⟨none, .store 3 (.tmp 86) (.tmp 85), _, _, _, none⟩ : Oper) _ _ _ _
                              refine wp_skipped (w' := wr.drew.setCell ⟨wA.heap.size, m, none⟩ (.int .i64 V)) (by go_simp) ?_
                              simp only [Act.put]
                              go_wp2_with fail
                              go_roundw
                              case rel => exact ⟨q + 1, _, by omega, by go_num, ext_drew HB5.out, HT5.out, (if_pos rfl).trans HVV.out.symm, HF5.out.2⟩
                              case measure => simp [intOf]; omega
                      · obtain rfl : q = k := by omega
                        have HF3 : Hid (∀ j, m ≤ j → j ≤ d.length → f2 j = fw l d j) := fun j h1 h2 => by
                          rcases Nat.lt_or_eq_of_le h1 with h | rfl
                          · exact HF.out.2 j h h2
                          · rw [HF.out.1, fw_step HNE.out (by omega), HL.out]
                        clear HF
                        as_aux_lemma =>
                          go_wp2_with fail
                          go_roundw
                          case rel => exact ⟨m, f2, by omega, by go_num, HB.out, HT.out, HF3.out⟩
                          case measure => first | (simp [intOf]; done) | (simp [intOf]; omega)
    · have HE := Lib.hid (HERR.out c)
      as_aux_lemma =>
        go_wp2_with fail
        go_ret3
        exact HE.out _ HB2.out HG.out HSAY.out hc0
end Go.Proofs.YtbimecknmojnoaaGreatDoor
