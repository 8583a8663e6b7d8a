/- What is proved here: what WordsOf of the reference answers: the least of the shortest ways. Condition: right words that lie in memory. -/
import Derived.Test.YtbimecknmojnoaaGreatDoorWordMap
import Derived.Carry
set_option linter.unusedVariables false
set_option linter.unusedSimpArgs false
namespace Go.Proofs.YtbimecknmojnoaaGreatDoor
open Go.RowKit
open Go.Maps

theorem Tryz.lawI : Keyed Tryz.prog 3 := int_keyed Tryz.underlying3
theorem Tryz.zeroS (w : World) : (zeroValue 27).run Tryz.prog w = .ok (.slice none 0 0) w := by kernel_rfl
theorem key_ok (p : Nat) (hp : p ≤ 1000) : keyOf Tryz.prog 3 (.int .i64 p) = some (keyP p) := keyOf_int_mk Tryz.underlying3 (WalkArith.wf_i64 (by omega))
/-- An entry of a map that is written out. -/
theorem wpList_insert_own {H : Type} {P : Program} (w : World) {ops : Array Oper} {rest : List Oper} {o : Oper} {a : Act} {Q : Exit → Act → World → Prop}
    (hg : o.guard = none) (m x v : Operand) (t : TypeId) (hop : o.op = Op.insert t m x v)
    (k e : TypeId) (K : Keyed P k) (ht : P.underlying t = some (.map k e)) (R : Value → Option (DataW H × List MemPlace)) (b n : Nat) (D : DataW H)
    (hm : a.eval m = .map (some b)) (hown : w.ownsMap P k R b n D) (hn : n < maxLen) (key val : Value) (kl : Lit) (hx : a.eval x = key) (hv : a.eval v = val) (hkey : keyOf P k key = some kl)
    (d : DataW H) (ps : List MemPlace) (hval : R val = some (d, ps))
    (hK : ∀ w', w'.ownsMap P k R b (n + 1) (D.put kl d) → w.grownBy w' (some b) → wpList P ops Q rest (a.put o.dst undef) w') :
    wpList P ops Q (o :: rest) a w := by
  refine wpList_plain hg fun K' hK' => ?_
  obtain ⟨w', hrun, r1, r2⟩ := hown.update K ht hn hkey hval
  unfold Oper.wp
  simp [execOp, hop, hm, hx, hv, hrun, Result.andThen]
  exact hK' _ _ (hK w' r1 r2)
def OfPost (d : List UInt8) (l : List Wd) (w : World) (e : Ending) (w' : World) : Prop :=
  ∃ v has xs, e = .returned (.tuple #[v, .bool has]) ∧ w'.ownsRow w.heap.size 9 1 v xs.length (xs.map encS) ∧ Below w.heap.size w w' ∧ Found l d has xs
/-- What has been looked at: the words behind those places that are no longer to come. -/
def CandL (l : List Wd) (d : List UInt8) (M : Nat → Option (List Wd)) (left : Lit → Bool) (q : Nat) (x : List Wd) : Prop := ∃ p way u, M p = some way ∧ left (keyP p) = false ∧ u ∈ l ∧ Cand l d p way q x u
def CandI (l : List Wd) (d : List UInt8) (M : Nat → Option (List Wd)) (left : Lit → Bool) (p : Nat) (way : List Wd) (i : Nat) (q : Nat) (x : List Wd) : Prop := CandL l d M left q x ∨ ∃ j, j < i ∧ j < l.length ∧ Cand l d p way q x (l.getD j [])
theorem candI_succ {l : List Wd} {d : List UInt8} {M : Nat → Option (List Wd)} {left : Lit → Bool} {p : Nat} {way : List Wd} {i : Nat} (hi : i < l.length) (q : Nat) (x : List Wd) : CandI l d M left p way (i + 1) q x ↔ CandI l d M left p way i q x ∨ Cand l d p way q x (l.getD i []) := by
  refine ⟨fun h => ?_, fun h => ?_⟩
  · rcases h with h | ⟨j, h1, h2, h3⟩
    · exact Or.inl (Or.inl h)
    · rcases Nat.lt_succ_iff_lt_or_eq.1 h1 with h9 | rfl
      · exact Or.inl (Or.inr ⟨j, h9, h2, h3⟩)
      · exact Or.inr h3
  · rcases h with h | h
    · rcases h with h | ⟨j, h1, h2, h3⟩
      · exact Or.inl h
      · exact Or.inr ⟨j, by omega, h2, h3⟩
    · exact Or.inr ⟨i, by omega, hi, h⟩
theorem grown_of_below {w w' : World} (h : Below w.heap.size w w') : w.grownBy w' none := ⟨h.os, h.tape, h.output, h.size, fun i hi _ => h.block i hi⟩
theorem map_below {w w' : World} {b n : Nat} {D : DataW Value} (h : w.ownsMap Tryz.prog 3 rdS b n D) (hb : Below w.heap.size w w') : w'.ownsMap Tryz.prog 3 rdS b n D := h.kept (grown_of_below hb) (by simp)
theorem ranges_below {w w' : World} {b r n cnt : Nat} {D : DataW Value} {left : Lit → Bool} (h : w.ranges Tryz.prog 3 rdS b r n D left cnt) (hb : Below w.heap.size w w') : w'.ranges Tryz.prog 3 rdS b r n D left cnt := h.kept (grown_of_below hb) (by simp) (by simp)

theorem candI_place {l : List Wd} {d : List UInt8} {t : Nat} {M : Nat → Option (List Wd)} {left : Lit → Bool} {p : Nat} {way : List Wd} {i q : Nat} {x : List Wd} (hW : Ways l d t M) (hp : p ≤ d.length) (h : CandI l d M left p way i q x) : q ≤ d.length := by
  rcases h with ⟨p', way', u, h1, -, -, h4⟩ | ⟨j, -, -, h3⟩
  · obtain ⟨h5, rfl, -⟩ := h4
    exact (take_pre ((hW p').2 way' h1).1 h5).2
  · obtain ⟨h5, rfl, -⟩ := h3
    exact (take_pre hp h5).2
theorem candI_len {l : List Wd} {d : List UInt8} {t : Nat} {M : Nat → Option (List Wd)} {left : Lit → Bool} {p : Nat} {way : List Wd} {i q : Nat} {x : List Wd} (hW : Ways l d t M) (hp : way.length = t) (h : CandI l d M left p way i q x) : x.length = t + 1 := by
  rcases h with ⟨p', way', u, h1, -, -, h4⟩ | ⟨j, -, -, h3⟩
  · obtain ⟨-, -, rfl⟩ := h4
    rw [List.length_append, List.length_singleton, ((hW p').2 way' h1).2.1.1]
  · obtain ⟨-, -, rfl⟩ := h3
    rw [List.length_append, List.length_singleton, hp]
theorem wrow_own {w : World} {base : Nat} {a : Option Addr} {n c : Nat} {xs : List Wd} (h : w.ownsRow base 9 1 (.slice a n c) n (xs.map encS)) (hn : n ≤ 200) : WRow w a n xs := by
  have hl : xs.length = n := by have := h.1; simpa using this
  refine ⟨hl.symm, hn, ?_⟩
  rcases h.2 with ⟨-, h0⟩ | ⟨g, cap, cur, e, -, hb, -⟩
  · exact Or.inl h0
  · injection e with e1 e2 e3
    subst e1
    refine Or.inr ⟨g, 0, rfl, (Array.getElem?_eq_some_iff.1 hb).1, fun i hi => ?_⟩
    subst e3
    rw [Nat.zero_add, h.cellAt i (by omega)]
    simp [encS, show i < xs.length by omega]
theorem isMap_own {w : World} {b n : Nat} {D : DataW Value} (h : w.ownsMap Tryz.prog 3 rdS b n D) : IsMap D := by
  obtain ⟨es, clock, hb, F, hs, rfl⟩ := h
  exact ⟨_, rfl⟩
/-- What is so behind a store into the new map. -/
theorem upd_facts {w wo w6 w8 : World} {b cnt1 L : Nat} {D D3 : DataW Value} {left : Lit → Bool} {M N2 : Nat → Option (List Wd)} {way more : List Wd} {v6 cw : Value} {a : Nat} (hb : b < wo.heap.size)
    (HRG : w6.ranges Tryz.prog 3 rdS b (wo.heap.size + 1) (L + 2) D left cnt1) (HON : w6.ownsMap Tryz.prog 3 rdS wo.heap.size (L + 1) D3) (HMN : MapOf w6 w.heap.size D3 N2) (HMD : MapOf w6 w.heap.size D M) (HW : w6.ownsRow w.heap.size 9 1 cw way.length (way.map encS)) (HO : w6.ownsRow w.heap.size 9 1 v6 more.length (more.map encS)) (HB : Below wo.heap.size wo w6)
    (hown8 : w8.ownsMap Tryz.prog 3 rdS wo.heap.size (L + 1 + 1) (D3.put (keyP a) (.held v6))) (hgr8 : w6.grownBy w8 (some wo.heap.size)) (hpl : ∀ q, (if q = a then some more else N2 q) ≠ none → q ≤ L) :
    w8.ranges Tryz.prog 3 rdS b (wo.heap.size + 1) (L + 2) D left cnt1 ∧ w8.ownsMap Tryz.prog 3 rdS wo.heap.size (L + 1) (D3.put (keyP a) (.held v6)) ∧ MapOf w8 w.heap.size (D3.put (keyP a) (.held v6)) (fun q => if q = a then some more else N2 q) ∧ MapOf w8 w.heap.size D M ∧ w8.ownsRow w.heap.size 9 1 cw way.length (way.map encS) ∧ Below wo.heap.size wo w8 := by
  have hm8 : MapOf w8 w.heap.size (D3.put (keyP a) (.held v6)) (fun q => if q = a then some more else N2 q) := (HMN.keep (fun v x hv => own_other hv hgr8 (map_no_row HON))).put (isMap_own HON) a (own_other HO hgr8 (map_no_row HON))
  refine ⟨HRG.kept hgr8 (by intro e; injection e with e; omega) (by intro e; injection e with e; omega), own_places hown8 L (fun kl hk => ?_), hm8, HMD.keep (fun v x hv => own_other hv hgr8 (map_no_row HON)), own_other HW hgr8 (map_no_row HON), HB.grown hgr8 HB.size (fun j hj => by cases hj; exact Nat.le_refl _)⟩
  obtain ⟨q, rfl, hq⟩ := hm8.1 kl hk
  exact ⟨q, rfl, hpl q hq⟩

set_option maxRecDepth 100000 in
set_option maxHeartbeats 4000000 in
theorem wordsOf_any (w : World) (d : List UInt8) (hd1 : 1 ≤ d.length) (hd30 : d.length ≤ 30) (a : Option Addr) (n cap : Nat) (l : List Wd) (h : WRow w a n l) (hne : ∀ w ∈ l, w ≠ []) (hky : ∀ x ∈ l, x.length ≤ 15 ∧ keysR x = (0, keyW x)) : Calls Tryz.prog 13 #[.string ⟨d.toArray⟩, .slice a n cap] w (OfPost d l w) := by
  obtain ⟨i0, hi, hz0, hz1, hz2⟩ := info_parts Tryz.infoStr
  have HR := Lib.hid h
  have HNE := Lib.hid hne
  have HKY := Lib.hid hky
  have hmm := @run_makeMap Tryz.prog
  have HKEY0 : Hid (keyOf Tryz.prog 3 (.int .i64 0) = some (keyP 0)) := key_ok 0 (by omega)
  have HM0 : Hid ((w.alloc (.map #[] 0)).ownsMap Tryz.prog 3 rdS w.heap.size 0 (.map [])) := World.ownsMap_made _ _ _ _
  have HM1 : Hid (((w.alloc (.map #[] 0)).alloc (.cells #[] 9)).ownsMap Tryz.prog 3 rdS w.heap.size 0 (.map [])) := HM0.out.alloc _
  clear h hne hky
  go_enter Tryz.func13, Tryz.ntmps13
  go_wp2_with (first | (refine wpList_insert_own _ rfl _ _ _ 128 rfl 3 27 Tryz.lawI Tryz.underlying128 rdS w.heap.size 0 _ rfl HM1.out (by simp only [maxLen]; omega) _ _ (keyP 0) rfl rfl HKEY0.out _ _ rfl ?_; intro w3 hown3 hgr3) | go_in)
  have hb2 : Below w.heap.size w w3 := by
    have h1 : Below w.heap.size w ((w.alloc (.map #[] 0)).alloc (.cells #[] 9)) := ext_alloc (ext_alloc (Below.refl _ _))
    exact h1.grown hgr3 h1.size (fun j hj => by cases hj; exact Nat.le_refl _)
  have HB3 := Lib.hid hb2
  have HO3 : Hid (w3.ownsMap Tryz.prog 3 rdS w.heap.size (d.length + 2) _) := hown3.mono (by omega)
  have HMO3 := Lib.hid ((MapOf.start w3 w.heap.size).put isMap_empty 0 (x := []) (v := .slice (some ⟨w.heap.size + 1, 0, none⟩) 0 0) (by
    have h1 : ((w.alloc (.map #[] 0)).alloc (.cells #[] 9)).ownsRow w.heap.size 9 1 (.slice (some ⟨(w.alloc (.map #[] 0)).heap.size, 0, none⟩) 0 0) 0 [] := own_lit0 _ _ (by simp)
    rw [show (w.alloc (.map #[] 0)).heap.size = w.heap.size + 1 by simp] at h1
    exact h1.kept hgr3 (Or.inr (by simp [Value.ownBlock]))))
  have HWY := Lib.hid (ways_zero l d)
  have HNO : Hid (∀ t', t' ≤ 0 → ∀ ws, ¬ Good l d t' ws) := fun t' ht ws hg => by
    obtain rfl : t' = 0 := by omega
    have h1 := List.eq_nil_of_length_eq_zero hg.1
    have h2 := hg.2.2
    rw [h1] at h2
    rw [← h2] at hd1
    simp at hd1
  clear hb2 hown3 hgr3
  go_loopw [6, 24] (fun mv i wr => ∃ (t b : Nat) (D : DataW Value) (M : Nat → Option (List Wd)), t ≤ d.length ∧ mv = .map (some b) ∧ i = .int .i64 t ∧ w.heap.size ≤ b ∧ Hid (wr.ownsMap Tryz.prog 3 rdS b (d.length + 2) D) ∧ Hid (MapOf wr w.heap.size D M) ∧ Hid (Ways l d t M) ∧ Hid (∀ t', t' ≤ t → ∀ ws, ¬ Good l d t' ws) ∧ Hid (Below w.heap.size w wr)) (fun _ i _ => d.length - (intOf i).toNat)
  case atStart => exact ⟨0, _, _, _, Nat.zero_le _, rfl, rfl, Nat.le_refl _, HO3.out, HMO3.out, HWY.out, HNO.out, HB3.out⟩
  case round =>
    obtain ⟨t, b, D, M, htd, rfl, rfl, hwb, HOM, HMO, HWA, HNG, HB⟩ := hrel
    by_cases hlt : t < d.length
    · obtain ⟨wo, rfl⟩ : ∃ wo : World, wo = wr := ⟨_, rfl⟩
      have HOM1 := Lib.hid (HOM.out.alloc (.map #[] 0))
      have HON1 : Hid ((wo.alloc (.map #[] 0)).ownsMap Tryz.prog 3 rdS wo.heap.size 0 (.map [])) := World.ownsMap_made _ _ _ _
      have e1 : (wo.alloc (.map #[] 0)).heap.size = wo.heap.size + 1 := by simp
      as_aux_lemma =>
        go_wp2_with (first | (at_range; refine wpList_range_own _ rfl _ 128 rfl 3 27 Tryz.lawI Tryz.underlying128 rdS b (d.length + 2) _ rfl HOM1.out ?_; intro w0 hrg0 hg0 hs0) | go_in)
        go_frame
        rw [e1] at hrg0 hs0 ⊢
        have hb0 : Below wo.heap.size wo w0 := ((Below.refl _ _).alloc (Nat.le_refl _) _).grown hg0 (by simp) (fun j hj => by cases hj)
        have HB0 := Lib.hid hb0
        have HRG0 := Lib.hid hrg0
        have HON0 := Lib.hid ((HON1.out.kept hg0 (by simp)).mono (Nat.zero_le (d.length + 1)))
        have HMIN0 : Hid (Min (CandL l d M (Maps.has D)) (fun _ => none)) := min_same min_start (fun q x => ⟨False.elim, fun ⟨p, way, u, h1, h2, _⟩ => by rw [HMO.out.has_iff p, h1] at h2; cases h2⟩)
        have HMOO0 := Lib.hid (HMO.out.keep (fun v x hv => own_keep hv hb0))
        have HST0 : Hid (MapOf w0 w.heap.size (.map []) (fun _ => none)) := MapOf.start _ _
        have hws := HB.out.size
        have hbo := HOM.out.lt
        clear hb0 hrg0 hg0 hs0 e1 HOM1 HON1
        go_loopw [36] (fun _ wr => ∃ (left : Lit → Bool) (cnt : Nat) (N : Nat → Option (List Wd)) (D2 : DataW Value), Hid (wr.ranges Tryz.prog 3 rdS b (wo.heap.size + 1) (d.length + 2) D left cnt) ∧ Hid (wr.ownsMap Tryz.prog 3 rdS wo.heap.size (d.length + 1) D2) ∧ Hid (MapOf wr w.heap.size D2 N) ∧ Hid (MapOf wr w.heap.size D M) ∧ Hid (Min (CandL l d M left) N) ∧ Hid (Below wo.heap.size wo wr)) (fun _ wr => wr.rangeLeft b (wo.heap.size + 1))
        case atStart => exact ⟨_, _, _, _, HRG0.out, HON0.out, HST0.out, HMOO0.out, HMIN0.out, HB0.out⟩
        case round =>
          obtain ⟨left, cnt, N, D2, HRG, HON, HMN, HMD, HMI, HBW⟩ := hrel
          go_wp2_with (first | (at_next; refine wpList_next_ranges _ rfl _ rfl 3 Tryz.lawI rdS (Value.int .i64) mkS (fun key kl hkey => by obtain ⟨x, rfl, _⟩ := Maps.keyOf_int_inv Tryz.underlying3 hkey; exact ⟨x, rfl⟩) (fun v y hv => by obtain ⟨c, rfl, _⟩ := rdS_inv hv; exact ⟨c, rfl⟩) b (wo.heap.size + 1) (d.length + 2) _ _ _ rfl HRG.out ?_ ?_) | go_in)
          · intro hc0 hl0
            have HALL : Hid (Min (CandAll l d M) N) := min_same HMI.out (fun q x => ⟨fun ⟨p, way, u, h1, _, h3, h4⟩ => ⟨p, way, u, h1, h3, h4⟩, fun ⟨p, way, u, h1, h3, h4⟩ => ⟨p, way, u, h1, hl0 _, h3, h4⟩⟩)
            have HWS := Lib.hid (ways_step HWA.out HALL.out)
            have HBE := Lib.hid (ext_trans HB.out HBW.out)
            have HKD : Hid (keyOf Tryz.prog 3 (.int .i64 d.length) = some (keyP d.length)) := key_ok _ (by omega)
            have HHAS : Hid (Maps.has D2 (keyP d.length) = (N d.length).isSome) := HMN.out.has_iff _
            clear HRG HMD HMI HALL hc0 hl0
            cases hN : N d.length with
            | some xs =>
              have hh : Maps.has D2 (keyP d.length) = true := by rw [HHAS.out, hN]; rfl
              have HFO := Lib.hid (ways_found HWS.out hN (fun t' ht ws => HNG.out t' (by omega) ws))
              obtain ⟨-, u, hu1, hu2⟩ := HMN.out.2 _ xs hN
              have HU1 := Lib.hid hu1
              have HU2 := Lib.hid hu2
              clear hN hu1 hu2
              go_wp2_with (first | (at_lookup; refine wpList_lookup_own_ok _ rfl _ _ 128 rfl 3 27 Tryz.lawI Tryz.underlying128 rdS (Tryz.zeroS _) (.held (.slice none 0 0)) [] rfl wo.heap.size (d.length + 1) D2 rfl HON.out _ _ rfl HKD.out ?_; intro v9 ps9 hv9) | go_in)
              have HU3 : Hid (wr.ownsRow w.heap.size 9 1 v9 xs.length (xs.map encS)) := by
                obtain ⟨c9, -, hy⟩ := rdS_inv hv9
                have h2 := congrArg Prod.fst hy
                have h3 := (HU1.out (.held (.slice none 0 0))).symm.trans h2
                injection h3 with h3
                rw [← h3]
                exact HU2.out
              clear hv9
              go_ret2
              exact ⟨v9, true, xs, rfl, HU3.out, HBE.out, HFO.out⟩
            | none =>
              have hh : Maps.has D2 (keyP d.length) = false := by rw [HHAS.out, hN]; rfl
              have HNZ : Hid (∀ t', t' ≤ t + 1 → ∀ ws, ¬ Good l d t' ws) := fun t' ht ws hg => by
                rcases Nat.lt_or_eq_of_le ht with h9 | rfl
                · exact HNG.out t' (by omega) ws hg
                · exact ways_none HWS.out hN ws hg
              clear hN
              go_wp2_with (first | (at_lookup; refine wpList_lookup_own_ok _ rfl _ _ 128 rfl 3 27 Tryz.lawI Tryz.underlying128 rdS (Tryz.zeroS _) (.held (.slice none 0 0)) [] rfl wo.heap.size (d.length + 1) D2 rfl HON.out _ _ rfl HKD.out ?_; intro v9 ps9 hv9) | go_in)
              go_roundw
              case rel => exact ⟨t + 1, _, _, _, by omega, rfl, by go_num, by omega, HON.out.mono (by omega), HMN.out, HWS.out, HNZ.out, HBE.out⟩
              case measure => first | (simp [intOf]; done) | (simp [intOf]; omega)
          · intro x ca cn cc kl y1 y2 w1 cnt1 hkey hlk hv hat hrg1 hlt1 hg1 hs1 hen
            obtain ⟨p, rfl, hnn⟩ := HMD.out.1 kl (has_true_of_atKey hat)
            obtain ⟨way, hway⟩ : ∃ way, M p = some way := by
              cases hm : M p with
              | none => exact absurd hm hnn
              | some way => exact ⟨way, rfl⟩
            obtain ⟨-, v, hv1, hv2⟩ := HMD.out.2 p way hway
            obtain ⟨c', hcc, hy⟩ := rdS_inv hv
            have hvc : v = mkS (ca, cn, cc) := by
              have h1 := (hat (.held v)).symm.trans (hv1 _)
              have h2 := congrArg Prod.fst hy
              simp only at h2
              rw [h2] at h1
              injection h1 with h1
              exact h1.symm
            subst hvc
            obtain ⟨x', hx1, hx2, -⟩ := Maps.keyOf_int_inv Tryz.underlying3 hkey
            have hxp : x = p := by
              unfold keyP at hx2
              injection hx1 with _ hx1
              injection hx2 with _ hx2
              omega
            subst hxp
            obtain ⟨hpl0, hleast⟩ := (HWA.out p).2 way hway
            have HRG1 := Lib.hid hrg1
            have HON1 := Lib.hid (HON.out.kept hg1 (by simp))
            have HMN1 := Lib.hid (HMN.out.keep (fun v x hv => own_other hv hg1 (iter_no_row HRG.out)))
            have HMD1 := Lib.hid (HMD.out.keep (fun v x hv => own_other hv hg1 (iter_no_row HRG.out)))
            have HW1 := Lib.hid (own_other hv2 hg1 (iter_no_row HRG.out))
            have HB1 := Lib.hid (HBW.out.grown hg1 HBW.out.size (fun j hj => by cases hj; omega))
            have HWY1 := Lib.hid hway
            have HLE := Lib.hid hleast
            have HLC : Hid (wr.rangeLeft b (wo.heap.size + 1) = cnt) := HRG.out.left_eq
            have HMI1 : Hid (Min (CandI l d M left p way 0) N) := min_same HMI.out (fun q x => ⟨Or.inl, fun h => h.elim id (fun ⟨j, hj, _⟩ => absurd hj (Nat.not_lt_zero j))⟩)
            clear hrg1 hg1 hs1 hkey hlk hv hat hv1 hv2 hcc hy hx1 hx2 hnn hway hleast HRG HON HMN HMD HMI
            as_aux_lemma =>
              go_wp2
              obtain ⟨wi, rfl⟩ : ∃ wi : World, wi = w1 := ⟨_, rfl⟩
              go_loopw [36] (fun qv wr => ∃ (i : Nat) (N : Nat → Option (List Wd)) (D2 : DataW Value), i ≤ n ∧ qv = .int .i64 i ∧ Hid (wr.ranges Tryz.prog 3 rdS b (wo.heap.size + 1) (d.length + 2) D (fun z => left z && !z.sameKey (keyP p)) cnt1) ∧ Hid (wr.ownsMap Tryz.prog 3 rdS wo.heap.size (d.length + 1) D2) ∧ Hid (MapOf wr w.heap.size D2 N) ∧ Hid (MapOf wr w.heap.size D M) ∧ Hid (wr.ownsRow w.heap.size 9 1 (mkS (ca, cn, cc)) way.length (way.map encS)) ∧ Hid (Min (CandI l d M left p way i) N) ∧ Hid (Below wo.heap.size wo wr)) (fun qv _ => n - (intOf qv).toNat)
              case atStart => exact ⟨0, _, _, Nat.zero_le _, rfl, HRG1.out, HON1.out, HMN1.out, HMD1.out, HW1.out, HMI1.out, HB1.out⟩
              case round =>
                obtain ⟨i, N2, D3, hin, rfl, HRG, HON, HMN, HMD, HW, HMI, HBX⟩ := hrel
                by_cases hli : i < n
                · have HBW2 : Hid (Below w.heap.size w wr) := ext_trans HB.out HBX.out
                  rcases HR.out.2.2 with h0 | ⟨bb, off, rfl, hbb, hc⟩
                  · omega
                  have c0 := (HBW2.out.cell (p := ⟨bb, off + i, none⟩) hbb).trans (hc i hli)
                  have zb : bb < wr.heap.size := Nat.lt_of_lt_of_le hbb HBW2.out.size
                  have hll : i < l.length := Nat.lt_of_lt_of_eq hli HR.out.1
                  have hmem : l.getD i [] ∈ l := by rw [show l.getD i [] = l[i] by simp [hll]]; exact List.getElem_mem hll
                  have HK := Lib.hid (HKY.out _ hmem)
                  have hpos : 1 ≤ (l.getD i []).length := List.length_pos_iff.2 (HNE.out _ hmem)
                  have hn200 : n ≤ 200 := HR.out.2.1
                  have HCS := Lib.hid (fun (N' : Nat → Option (List Wd)) h => @min_same _ (CandI l d M left p way (i + 1)) N' h (fun q x => (candI_succ hll q x).symm))
                  clear hc hmem
                  generalize l.getD i [] = x at c0 HK hpos HCS
                  have hx15 := HK.out.1
                  have hkl := keyW_len x
                  as_aux_lemma =>
                    go_wp2_with fail
                    refine (keysOf_any x (by omega) _).mono ?_
                    rw [HK.out.2]
                    rintro e w4 ⟨rfl, hb4⟩
                    have HRG4 := Lib.hid (ranges_below HRG.out hb4)
                    have HON4 := Lib.hid (map_below HON.out hb4)
                    have HMN4 := Lib.hid (HMN.out.keep (fun v x hv => own_keep hv hb4))
                    have HMD4 := Lib.hid (HMD.out.keep (fun v x hv => own_keep hv hb4))
                    have HW4 := Lib.hid (own_keep HW.out hb4)
                    have HBX4 := Lib.hid (ext_trans HBX.out hb4)
                    clear hb4 c0 HRG HON HMN HMD HW HBX HBW2
                    have HHP : Hid (∀ W, Calls Tryz.prog 75 #[.string ((⟨d.toArray⟩ : ByteArray).extract p d.length), .string ⟨(keyW x).toArray⟩] W fun e w' => e = .returned (.bool (Lib.hasPrefix (d.drop p) (keyW x))) ∧ W = w') := fun W => by
                      rw [extract_drop]
                      exact hasPrefix_l (d.drop p) (keyW x) W
                    have hpd : (p : Int) ≤ d.length := by omega
                    as_aux_lemma =>
                      go_wp2_with fail
                      refine (HHP.out _).mono ?_
                      rintro e w5 ⟨rfl, rfl⟩
                      by_cases hp : Lib.hasPrefix (d.drop p) (keyW x) = true
                      · have hpl : p + x.length ≤ d.length := (take_pre (w := x) hpl0 hp).2
                        have HPT := Lib.hid hp
                        have HLW : Hid (way.length = t) := HLE.out.1.1
                        have hwl : way.length ≤ 200 := by have := HLW.out; omega
                        rw [hp]
                        clear hp HHP
                        as_aux_lemma =>
                          go_wp2_with fail
                          refine (cloneW_any _ w.heap.size (.slice ca cn cc) way.length way HW4.out hwl).mono ?_
                          rintro e w5 ⟨v5, rfl, ho5, hb5⟩
                          have HB5 := Lib.hid hb5
                          have HO5 := Lib.hid ho5
                          have hz5 : w4.heap.size ≤ w5.heap.size := hb5.size
                          have HOA : Hid ((w5.alloc (.cells #[.string ⟨x.toArray⟩] 9)).ownsRow w4.heap.size 9 1 v5 way.length (way.map encS)) := ho5.alloc _
                          clear hb5 ho5
                          as_aux_lemma =>
                            go_upto_region 14 with (at_builtin; refine wpList_append_own _ rfl (.tmp 52) (.tmp 54) 27 rfl w4.heap.size 9 i0 (.string ⟨#[]⟩) 1 16 Tryz.underlying27 hi hz0 hz1 hz2 rfl (by decide) _ way.length _ rfl HOA.out ⟨w5.heap.size, 0, none⟩ 1 1 [.string ⟨x.toArray⟩] rfl rfl (news_one (by go_simp)) (by simp [Value.oneCell']) (by simp only [maxLen]; omega) (by omega) (by simp; omega) ?_; intro v6 w6 hown6 hgr6 _)
                            have hrow : ∀ b, v5.ownBlock = some b → w4.heap.size ≤ b := fun b e => (HO5.out.lt b e).1
                            have hup : Below w4.heap.size w5 w6 := upto_grown hgr6 hz5 hrow
                            have hb6 : Below w4.heap.size w4 w6 := HB5.out.trans hup
                            have ho6 : w6.ownsRow w.heap.size 9 1 v6 (way ++ [x]).length ((way ++ [x]).map encS) := by
                              refine own_le ?_ (ext_trans HB.out HBX4.out).size
                              rw [show (way ++ [x]).map encS = way.map encS ++ [.string ⟨x.toArray⟩] by simp [encS], List.length_append]
                              exact hown6
                            have HMT : Hid ((way ++ [x]).length = t + 1) := by show _ = _; rw [List.length_append, List.length_singleton, HLW.out]
                            have hml : (way ++ [x]).length ≤ 200 := by have := HLW.out; rw [List.length_append, List.length_singleton]; omega
                            have HPQ : Hid (∀ N', Min (fun q z => CandI l d M left p way i q z ∨ (q = p + x.length ∧ z = way ++ [x])) N' → Min (CandI l d M left p way (i + 1)) N') := fun N' h => HCS.out _ (min_same h (fun q z => or_congr Iff.rfl ⟨fun h => ⟨HPT.out, h.1, h.2⟩, fun h => ⟨h.2.1, h.2.2⟩⟩))
                            generalize way ++ [x] = more at ho6 hml HPQ HMT
                            have HO6 := Lib.hid ho6
                            obtain ⟨a6, c6, rfl⟩ := own_shape ho6
                            clear ho6 HCS
                            have HRG6 := Lib.hid (ranges_below HRG4.out hb6)
                            have HON6 := Lib.hid (map_below HON4.out hb6)
                            have HMN6 := Lib.hid (HMN4.out.keep (fun v x hv => own_keep hv hb6))
                            have HMD6 := Lib.hid (HMD4.out.keep (fun v x hv => own_keep hv hb6))
                            have HW6 := Lib.hid (own_keep HW4.out hb6)
                            have HBX6 := Lib.hid (ext_trans HBX4.out hb6)
                            have HKA : Hid (keyOf Tryz.prog 3 (.int .i64 ((p : Int) + x.length)) = some (keyP (p + x.length))) := key_ok (p + x.length) (by omega)
                            have HRD : Hid (rdS (.slice a6 more.length c6) = some (.held (.slice a6 more.length c6), [])) := rfl
                            have HHAS : Hid (Maps.has D3 (keyP (p + x.length)) = (N2 (p + x.length)).isSome) := HMN6.out.has_iff _
                            have ikl : IntKind.i64.wrap ((p : Int) + x.length) = (p : Int) + x.length := IntWalk.i64_in _ (by omega)
                            clear hown6 hgr6 hrow hup hb6 hz5 HB5 HO5 HOA HRG4 HON4 HMN4 HMD4 HW4 HBX4
                            cases hN : N2 (p + x.length) with
                            | none =>
                              have hh : Maps.has D3 (keyP (p + x.length)) = false := by rw [HHAS.out, hN]; rfl
                              have HMP := Lib.hid (HPQ.out _ (min_put HMI.out (p + x.length) more (Or.inl hN)))
                              clear HHAS hN HPQ HMI
                              generalize hml9 : more.length = ml at hml HRD ⊢
                              have HM9 := Lib.hid hml9
                              clear hml9
                              as_aux_lemma =>
                                go_wp2_with (first | (at_mapUpdate; refine wpList_mapUpdate_own _ rfl _ _ _ 128 rfl 3 27 Tryz.lawI Tryz.underlying128 rdS wo.heap.size (d.length + 1) D3 rfl HON6.out (by simp only [maxLen]; omega) _ _ (keyP (p + x.length)) rfl rfl HKA.out _ _ HRD.out ?_; intro w8 hown8 hgr8) | (at_lookup; refine wpList_lookup_own_ok _ rfl _ _ 128 rfl 3 27 Tryz.lawI Tryz.underlying128 rdS (Tryz.zeroS _) (.held (.slice none 0 0)) [] rfl wo.heap.size (d.length + 1) D3 rfl HON6.out _ _ rfl HKA.out ?_; intro v9 ps9 hv9) | go_in)
                                have hpl9 : ∀ q, (if q = p + x.length then some more else N2 q) ≠ none → q ≤ d.length := fun q hq => by
                                  cases hz : (if q = p + x.length then some more else N2 q) with
                                  | none => exact absurd hz hq
                                  | some y => exact candI_place HWA.out hpl0 ((HMP.out q).2 y hz).1
                                have HF8 := Lib.hid (upd_facts hbo HRG6.out HON6.out HMN6.out HMD6.out HW6.out (by have h := HO6.out; rw [HM9.out] at h; rw [HM9.out]; exact h) HBX6.out hown8 hgr8 hpl9)
                                obtain ⟨k1, k2, k3, k4, k5, k6⟩ := HF8.out
                                go_roundw
                                case rel => exact ⟨i + 1, _, _, by omega, by go_num, k1, k2, k3, k4, k5, HMP.out, k6⟩
                                case measure => first | (simp [intOf]; done) | (simp [intOf]; omega)
                            | some old =>
                              have hh : Maps.has D3 (keyP (p + x.length)) = true := by rw [HHAS.out, hN]; rfl
                              obtain ⟨hcm, -⟩ := (HMI.out (p + x.length)).2 old hN
                              have hol : old.length = t + 1 := candI_len HWA.out HLW.out hcm
                              have HML : Hid (more.length = old.length) := by show _ = _; rw [HMT.out, hol]
                              obtain ⟨-, u, hu1, hu2⟩ := HMN6.out.2 _ old hN
                              obtain ⟨a7, c7, rfl⟩ := own_shape hu2
                              rw [← HML.out] at hu1 hu2
                              have HU1 := Lib.hid hu1
                              have HWR := Lib.hid (wrow_own HO6.out hml)
                              have HWR2 := Lib.hid (wrow_own hu2 hml)
                              have HPQ2 := Lib.hid (fun h => HPQ.out _ (min_put HMI.out (p + x.length) more (Or.inr ⟨old, hN, h⟩)))
                              have HPQ3 := Lib.hid (fun h => HPQ.out _ (min_keep HMI.out (p + x.length) more old hN h))
                              clear HHAS hN HPQ HMI hcm hol hu1 hu2
                              generalize hml9 : more.length = ml at hml HRD HWR HWR2 HU1 ⊢
                              have HM9 := Lib.hid hml9
                              clear hml9
                              as_aux_lemma =>
                                go_upto_region 15 with (first | (at_lookup; refine wpList_lookup_own_ok _ rfl _ _ 128 rfl 3 27 Tryz.lawI Tryz.underlying128 rdS (Tryz.zeroS _) (.held (.slice none 0 0)) [] rfl wo.heap.size (d.length + 1) D3 rfl HON6.out _ _ rfl HKA.out ?_; intro v9 ps9 hv9) | go_in)
                                obtain rfl : v9 = .slice a7 ml c7 := by
                                  obtain ⟨c9, -, hy⟩ := rdS_inv hv9
                                  have h2 := congrArg Prod.fst hy
                                  have h3 := (HU1.out (.held (.slice none 0 0))).symm.trans h2
                                  injection h3 with h3
                                  exact h3.symm
                                clear hv9 HU1
                                go_wp2_with fail
                                refine (compareW_any _ a6 a7 ml c6 c7 more old HWR.out HWR2.out).mono ?_
                                rintro e w7 ⟨r, rfl, hr, hb7⟩
                                have HRG7 := Lib.hid (ranges_below HRG6.out hb7)
                                have HON7 := Lib.hid (map_below HON6.out hb7)
                                have HMN7 := Lib.hid (HMN6.out.keep (fun v x hv => own_keep hv hb7))
                                have HMD7 := Lib.hid (HMD6.out.keep (fun v x hv => own_keep hv hb7))
                                have HW7 := Lib.hid (own_keep HW6.out hb7)
                                have HO7 := Lib.hid (own_keep HO6.out hb7)
                                have HBX7 := Lib.hid (ext_trans HBX6.out hb7)
                                clear hb7 HRG6 HON6 HMN6 HMD6 HW6 HO6 HBX6 HWR HWR2
                                by_cases hl : lessL more old = true
                                · have hr0 : r < 0 := hr.2 hl
                                  have HMP := Lib.hid (HPQ2.out hl)
                                  clear hr hl HPQ2 HPQ3
                                  as_aux_lemma =>
                                    go_wp2_with (first | (at_mapUpdate; refine wpList_mapUpdate_own _ rfl _ _ _ 128 rfl 3 27 Tryz.lawI Tryz.underlying128 rdS wo.heap.size (d.length + 1) D3 rfl HON7.out (by simp only [maxLen]; omega) _ _ (keyP (p + x.length)) rfl rfl HKA.out _ _ HRD.out ?_; intro w8 hown8 hgr8) | go_in)
                                    have hpl9 : ∀ q, (if q = p + x.length then some more else N2 q) ≠ none → q ≤ d.length := fun q hq => by
                                      cases hz : (if q = p + x.length then some more else N2 q) with
                                      | none => exact absurd hz hq
                                      | some y => exact candI_place HWA.out hpl0 ((HMP.out q).2 y hz).1
                                    have HF8 := Lib.hid (upd_facts hbo HRG7.out HON7.out HMN7.out HMD7.out HW7.out (by have h := HO7.out; rw [HM9.out] at h; rw [HM9.out]; exact h) HBX7.out hown8 hgr8 hpl9)
                                    obtain ⟨k1, k2, k3, k4, k5, k6⟩ := HF8.out
                                    go_roundw
                                    case rel => exact ⟨i + 1, _, _, by omega, by go_num, k1, k2, k3, k4, k5, HMP.out, k6⟩
                                    case measure => first | (simp [intOf]; done) | (simp [intOf]; omega)
                                · have hr0 : ¬ r < 0 := fun h => hl (hr.1 h)
                                  have HMP := Lib.hid (HPQ3.out (by simpa using hl))
                                  clear hr hl HPQ2 HPQ3
                                  as_aux_lemma =>
                                    go_wp2_with fail
                                    go_roundw
                                    case rel => exact ⟨i + 1, _, _, by omega, by go_num, HRG7.out, HON7.out, HMN7.out, HMD7.out, HW7.out, HMP.out, HBX7.out⟩
                                    case measure => first | (simp [intOf]; done) | (simp [intOf]; omega)
                      · have hp' : Lib.hasPrefix (d.drop p) (keyW x) = false := by simpa using hp
                        rw [hp']
                        have HMI5 := Lib.hid (HCS.out _ (min_same HMI.out (fun q z => ⟨Or.inl, fun h => h.elim id (fun h => absurd h.1 hp)⟩)))
                        clear hp hp' HMI HCS
                        as_aux_lemma =>
                          go_wp2_with fail
                          go_roundw
                          case rel => exact ⟨i + 1, _, _, by omega, by go_num, HRG4.out, HON4.out, HMN4.out, HMD4.out, HW4.out, HMI5.out, HBX4.out⟩
                          case measure => first | (simp [intOf]; done) | (simp [intOf]; omega)
                · obtain rfl : i = n := by omega
                  have HLN : Hid (i = l.length) := HR.out.1
                  have HMZ : Hid (Min (CandL l d M (fun z => left z && !z.sameKey (keyP p))) N2) := min_same HMI.out (fun q x => by
                    refine ⟨fun h => ?_, fun h => ?_⟩
                    · rcases h with ⟨p', way', u, h1, h2, h3, h4⟩ | ⟨j, h1, h2, h3⟩
                      · exact ⟨p', way', u, h1, by show (left (keyP p') && _) = false; rw [h2]; rfl, h3, h4⟩
                      · refine ⟨p, way, _, HWY1.out, ?_, ?_, h3⟩
                        · show (left (keyP p) && !(keyP p).sameKey (keyP p)) = false
                          rw [WideAt.sameKey_self (keyP_lit p)]; simp
                        · rw [show l.getD j [] = l[j] by simp [h2]]; exact List.getElem_mem h2
                    · obtain ⟨p', way', u, h1, h2, h3, h4⟩ := h
                      by_cases hpp : p' = p
                      · subst hpp
                        have hw : way' = way := by rw [HWY1.out] at h1; injection h1 with h1; exact h1.symm
                        subst hw
                        obtain ⟨j, hj, rfl⟩ := List.getElem_of_mem h3
                        refine Or.inr ⟨j, Nat.lt_of_lt_of_eq hj HLN.out.symm, hj, ?_⟩
                        rw [show l.getD j [] = l[j] by simp [hj]]
                        exact h4
                      · change (left (keyP p') && !(keyP p').sameKey (keyP p)) = false at h2
                        rw [sameKey_ne (fun e => hpp (keyP_inj e))] at h2
                        exact Or.inl ⟨p', way', u, h1, by simpa using h2, h3, h4⟩)
                  clear HMI
                  as_aux_lemma =>
                    go_wp2
                    go_roundw
                    case rel => exact ⟨_, cnt1, N2, D3, HRG.out, HON.out, HMN.out, HMD.out, HMZ.out, HBX.out⟩
                    case measure => rw [HRG.out.left_eq, HLC.out]; exact hlt1
    · obtain rfl : t = d.length := by omega
      have HFO := Lib.hid (found_end HNE.out HNG.out)
      as_aux_lemma =>
        go_wp2_with go_in
        go_ret2
        exact ⟨_, _, [], rfl, own_nil _ _ _ _, HB.out, HFO.out⟩
end Go.Proofs.YtbimecknmojnoaaGreatDoor
