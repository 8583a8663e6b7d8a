/- What is proved here: lemmas and contracts for the statement, put together out of smaller texts (DkmDf, DkmDg). No condition beyond those stated. -/
import Derived.Test.YtacekbbndamkmaaGreatDoorDcPkF
set_option linter.unusedVariables false
set_option linter.unusedSimpArgs false
namespace Go.Proofs.YtacekbbndamkmaaGreatDoor
open Go.RowKit
open Go.Maps

theorem filter_stepG {α : Type} (q : α → Bool) (rs : List α) (d : α) (i : Nat) (hi : i < rs.length) : (rs.take (i + 1)).filter q = (rs.take i).filter q ++ (if q (rs.getD i d) = true then [rs.getD i d] else []) := by
  rw [List.take_add_one, List.getElem?_eq_getElem hi, List.filter_append]
  simp only [Option.toList_some, List.filter_cons, List.filter_nil, List.getD_eq_getElem?_getD, List.getElem?_eq_getElem hi, Option.getD_some]
theorem filter_take_lenG {α : Type} (q : α → Bool) (rs : List α) (i : Nat) : ((rs.take i).filter q).length ≤ rs.length := Nat.le_trans (List.length_filter_le _ _) (List.length_take_le' _ _)
theorem pre_two (a b : Deck) : prefK [a, b] = a.rates.map (·.p) ++ b.rates.map (·.p) := by unfold prefK; simp
/-- Whether two rates differ. -/
def diffO (f1 f2 : Bool) (x y : Rate) : Bool := (f1 != f2) || ((x.price != y.price) || (x.closed != y.closed))
def diffS (K : List (List UInt8)) (a b : List Rate) (s : List UInt8) : Bool := (leastV K s).isSome && diffO (rateOf a s s.length).isSome (rateOf b s s.length).isSome ((rateOf a s s.length).getD noRate) ((rateOf b s s.length).getD noRate)
/-- Where two lists of rates differ. -/
def diffV (a b : List Rate) : List (List UInt8) := (onceL (a.map (·.p) ++ b.map (·.p))).filter (diffS (a.map (·.p) ++ b.map (·.p)) a b)
/-- Strings of the call's own, and an error. -/
def ListPostE (xs : List (List UInt8)) (E : Int) (w : World) (e : Ending) (w' : World) : Prop := ∃ v, e = .returned (.tuple #[v, .int .i64 E]) ∧ w'.ownsRow w.heap.size 9 1 v xs.length (xs.map encS) ∧ Below w.heap.size w w'
/-- What is known of two decks' prefixes. -/
structure PreTwo (K : List (List UInt8)) : Prop where
  few : K.length ≤ 200
  short : ∀ s ∈ K, s.length ≤ 100
theorem preTwo {w : World} {a b : Deck} (ha : DeckFine w a) (hb : DeckFine w b) : PreTwo (a.rates.map (·.p) ++ b.rates.map (·.p)) := by
  refine ⟨?_, fun s hs => ?_⟩
  · rw [List.length_append, List.length_map, List.length_map, ← ha.row.len, ← hb.row.len]
    have := ha.row.few
    have := hb.row.few
    omega
  · rcases List.mem_append.1 hs with h | h
    · obtain ⟨r, hr, rfl⟩ := List.mem_map.1 h
      exact (rate_mem ha.row r hr).1
    · obtain ⟨r, hr, rfl⟩ := List.mem_map.1 h
      exact (rate_mem hb.row r hr).1
theorem PreTwo.at_ {K : List (List UInt8)} (h : PreTwo K) (i : Nat) : ((onceL K).getD i []).length ≤ 100 := by
  by_cases hi : i < (onceL K).length
  · exact h.short _ ((mem_once K _).1 (mem_getD [] hi))
  · rw [List.getD_eq_getElem?_getD, List.getElem?_eq_none (by omega)]; simp
theorem ratePostD {o : Option Rate} {w : World} {e : Ending} {w' : World} (h : RatePost o w e w') : Below w.heap.size w w' ∧ e = .returned (.tuple #[.agg #[.string ⟨(o.getD noRate).p.toArray⟩, .int .i64 (o.getD noRate).price, .bool (o.getD noRate).closed], .bool o.isSome]) := h
theorem first_both {x y : Int} (h : firstE x y = 0) : x = 0 ∧ y = 0 := by
  unfold firstE at h
  split at h
  · rename_i h1; exact absurd h h1
  · rename_i h1; exact ⟨by simpa using h1, h⟩
theorem bl_ddf0 (e : Operand → Value) (he : ∀ v, e (.const v) = v) (o : Oper) (w : World) (i0 : Nat) (i1 : Nat) (z0_0 : Int) (z0_1 : Int) (z0_2 : Int) (z0_3 : Int) (a0_4 : Option Addr) (n0_4 : Nat) (m0_4 : Nat) (z1_0 : Int) (z1_1 : Int) (z1_2 : Int) (z1_3 : Int) (a1_4 : Option Addr) (n1_4 : Nat) (m1_4 : Nat) (ho : o.op = .buildSlice 123 2 #[(0, .tmp i0), (1, .tmp i1)]) (h0 : e (.tmp i0) = .agg #[.int .i64 z0_0, .int .i64 z0_1, .int .i64 z0_2, .int .i64 z0_3, .slice a0_4 n0_4 m0_4]) (h1 : e (.tmp i1) = .agg #[.int .i64 z1_0, .int .i64 z1_1, .int .i64 z1_2, .int .i64 z1_3, .slice a1_4 n1_4 m1_4]) :
   (execOp e o).run Tryz.prog w = .ok (.value (.slice (some ⟨w.heap.size, 0, none⟩) 2 2)) (w.alloc (.cells #[.int .i64 z0_0, .int .i64 z0_1, .int .i64 z0_2, .int .i64 z0_3, .slice a0_4 n0_4 m0_4, .int .i64 z1_0, .int .i64 z1_1, .int .i64 z1_2, .int .i64 z1_3, .slice a1_4 n1_4 m1_4] 28)) := by
  unfold execOp
  rw [ho]
  simp only [List.map_toArray, List.map_cons, List.map_nil, h0, h1]
  kernel_rfl
theorem bl_ddf1 (e : Operand → Value) (he : ∀ v, e (.const v) = v) (o : Oper) (w : World) (i0 : Nat) (p0 : ByteArray) (ho : o.op = .buildSlice 38 1 #[(0, .tmp i0)]) (h0 : e (.tmp i0) = .string p0) :
   (execOp e o).run Tryz.prog w = .ok (.value (.slice (some ⟨w.heap.size, 0, none⟩) 1 1)) (w.alloc (.cells #[.string p0] 9)) := by
  unfold execOp
  rw [ho]
  simp only [List.map_toArray, List.map_cons, List.map_nil, h0]
  kernel_rfl
set_option maxRecDepth 100000 in
set_option maxHeartbeats 8000000 in
theorem differ_any (w : World) (a b : Deck) (ha : DeckFine w a) (hb : DeckFine w b) (E : Int) (hE : firstE (deckErr a) (deckErr b) = E) : Calls Tryz.prog 12 #[.agg a.cells.toArray, .agg b.cells.toArray] w (ListPostE (if E = 0 then diffV a.rates b.rates else []) E w) := by
  obtain ⟨i0, hi, hz0, hz1, hz2⟩ := info_parts Tryz.infoStr
  have HCT : Hid (∀ W, Below w.heap.size w W → Calls Tryz.prog 47 #[.agg a.cells.toArray, .agg b.cells.toArray] W (ErrPost E W)) := fun W hW => hE ▸ checkTwo_any W a b (ha.below hW) (hb.below hW)
  have HP2 := Lib.hid (preTwo ha hb)
  have HDL : Hid (∀ W, Below w.heap.size w W → DeckRow (W.alloc (.cells (([a, b].map Deck.cells).flatten).toArray 28)) (some ⟨W.heap.size, 0, none⟩) 2 [a, b]) := fun W hW => deck_lit W [a, b] (by simp) (fun i hi => by
    have hi' : i < 2 := by simpa using hi
    match i, hi' with
    | 0, _ => exact ha.below hW
    | 1, _ => exact hb.below hW)
  have HPT : Hid (prefK [a, b] = a.rates.map (·.p) ++ b.rates.map (·.p)) := pre_two a b
  have HSA : Hid (E = 0 → RSorted a.rates ∧ RSorted b.rates) := fun h => by
    have h2 : deckErr a = 0 ∧ deckErr b = 0 := first_both (hE.trans h)
    exact ⟨(deck_good (Nat.le_trans (by rw [← ha.row.len]; exact ha.row.few) (by decide)) h2.1).sorted, (deck_good (Nat.le_trans (by rw [← hb.row.len]; exact hb.row.few) (by decide)) h2.2).sorted⟩
  have HRA := Lib.hid ha.row
  have HRB := Lib.hid hb.row
  clear ha hb hE
  obtain ⟨gf, gs, gl, gp, ga, gn, gc, grs⟩ := a
  obtain ⟨kf, ks, kl, kp, ka, kn, kc, krs⟩ := b
  have HCT2 : Hid (∀ W, Below w.heap.size w W → Calls Tryz.prog 47 #[.agg #[.int .i64 gf, .int .i64 gs, .int .i64 gl, .int .i64 gp, .slice ga gn gc], .agg #[.int .i64 kf, .int .i64 ks, .int .i64 kl, .int .i64 kp, .slice ka kn kc]] W (ErrPost E W)) := HCT.out
  have HDL2 : Hid (∀ W, Below w.heap.size w W → DeckRow (W.alloc (.cells #[.int .i64 gf, .int .i64 gs, .int .i64 gl, .int .i64 gp, .slice ga gn gc, .int .i64 kf, .int .i64 ks, .int .i64 kl, .int .i64 kp, .slice ka kn kc] 28)) (some ⟨W.heap.size, 0, none⟩) 2 [(⟨gf, gs, gl, gp, ga, gn, gc, grs⟩ : Deck), (⟨kf, ks, kl, kp, ka, kn, kc, krs⟩ : Deck)]) := HDL.out
  show Calls Tryz.prog 12 #[.agg #[.int .i64 gf, .int .i64 gs, .int .i64 gl, .int .i64 gp, .slice ga gn gc], .agg #[.int .i64 kf, .int .i64 ks, .int .i64 kl, .int .i64 kp, .slice ka kn kc]] w _
  simp only at HPT HSA HRA HRB HP2 ⊢
  clear HCT HDL
  by_cases hE : E = 0
  case neg =>
    rw [if_neg hE]
    have hEb : (E == 0) = false := beq_eq_false_iff_ne.2 hE
    clear HSA HRA HRB HPT HP2 HDL2
    have HX : Hid (Blk ((w.alloc (.cells #[.int .i64 gf, .int .i64 gs, .int .i64 gl, .int .i64 gp, .slice ga gn gc] 28)).alloc (.cells #[.int .i64 kf, .int .i64 ks, .int .i64 kl, .int .i64 kp, .slice ka kn kc] 28)) w.heap.size [.int .i64 gf, .int .i64 gs, .int .i64 gl, .int .i64 gp, .slice ga gn gc] 28) := (Blk.new w _ _).alloc _
    have HY : Hid (Blk ((w.alloc (.cells #[.int .i64 gf, .int .i64 gs, .int .i64 gl, .int .i64 gp, .slice ga gn gc] 28)).alloc (.cells #[.int .i64 kf, .int .i64 ks, .int .i64 kl, .int .i64 kp, .slice ka kn kc] 28)) (w.heap.size + 1) [.int .i64 kf, .int .i64 ks, .int .i64 kl, .int .i64 kp, .slice ka kn kc] 28) := by
      have := Blk.new (w.alloc (.cells #[.int .i64 gf, .int .i64 gs, .int .i64 gl, .int .i64 gp, .slice ga gn gc] 28)) [.int .i64 kf, .int .i64 ks, .int .i64 kl, .int .i64 kp, .slice ka kn kc] 28
      rw [show (w.alloc (.cells #[.int .i64 gf, .int .i64 gs, .int .i64 gl, .int .i64 gp, .slice ga gn gc] 28)).heap.size = w.heap.size + 1 by simp] at this
      exact this
    have HA : Hid (Below w.heap.size w ((w.alloc (.cells #[.int .i64 gf, .int .i64 gs, .int .i64 gl, .int .i64 gp, .slice ga gn gc] 28)).alloc (.cells #[.int .i64 kf, .int .i64 ks, .int .i64 kl, .int .i64 kp, .slice ka kn kc] 28))) := ext_alloc (ext_alloc (Below.refl _ _))
    go_enter Tryz.func12, Tryz.ntmps12
    as_aux_lemma =>
      go_upto_region 1 with (fail)
      generalize World.alloc (World.alloc w _) _ = w1 at HX HY HA ⊢
      obtain ⟨Y, hY⟩ : ∃ Y, Y = w.heap.size + 1 := ⟨_, rfl⟩
      obtain ⟨X, hX⟩ : ∃ X, X = w.heap.size := ⟨_, rfl⟩
      rw [← hY] at HY
      rw [← hX] at HX
      simp only [← hY]
      simp only [← hX]
      clear hX hY
      have x0 := HX.out.cell 0 rfl
      have x1 := HX.out.cell 1 rfl
      have x2 := HX.out.cell 2 rfl
      have x3 := HX.out.cell 3 rfl
      have x4 := HX.out.cell 4 rfl
      have y0 := HY.out.cell 0 rfl
      have y1 := HY.out.cell 1 rfl
      have y2 := HY.out.cell 2 rfl
      have y3 := HY.out.cell 3 rfl
      have y4 := HY.out.cell 4 rfl
      as_aux_lemma =>
        go_wp2_with fail
        refine (HCT2.out w1 HA.out).mono ?_
        rintro e w2 ⟨rfl, hb2⟩
        have HB2 := Lib.hid (ext_trans HA.out hb2)
        clear hb2 HX HY HA HCT2 x0 x1 x2 x3 x4 y0 y1 y2 y3 y4
        as_aux_lemma =>
          go_wp2_with fail
          go_ret2
          exact ⟨_, rfl, World.ownsRow_nil _ _ _ _, HB2.out⟩
  subst hE
  rw [if_pos rfl]
  obtain ⟨hsa, hsb⟩ := HSA.out rfl
  have HSA2 := Lib.hid hsa
  have HSB2 := Lib.hid hsb
  clear hsa hsb HSA
  have HDV : Hid (diffV grs krs = (onceL (grs.map (·.p) ++ krs.map (·.p))).filter (diffS (grs.map (·.p) ++ krs.map (·.p)) grs krs)) := rfl
  generalize diffV grs krs = R at HDV ⊢
  generalize grs.map (·.p) ++ krs.map (·.p) = K at HPT HP2 HDV
  have HX : Hid (Blk ((w.alloc (.cells #[.int .i64 gf, .int .i64 gs, .int .i64 gl, .int .i64 gp, .slice ga gn gc] 28)).alloc (.cells #[.int .i64 kf, .int .i64 ks, .int .i64 kl, .int .i64 kp, .slice ka kn kc] 28)) w.heap.size [.int .i64 gf, .int .i64 gs, .int .i64 gl, .int .i64 gp, .slice ga gn gc] 28) := (Blk.new w _ _).alloc _
  have HY : Hid (Blk ((w.alloc (.cells #[.int .i64 gf, .int .i64 gs, .int .i64 gl, .int .i64 gp, .slice ga gn gc] 28)).alloc (.cells #[.int .i64 kf, .int .i64 ks, .int .i64 kl, .int .i64 kp, .slice ka kn kc] 28)) (w.heap.size + 1) [.int .i64 kf, .int .i64 ks, .int .i64 kl, .int .i64 kp, .slice ka kn kc] 28) := by
    have := Blk.new (w.alloc (.cells #[.int .i64 gf, .int .i64 gs, .int .i64 gl, .int .i64 gp, .slice ga gn gc] 28)) [.int .i64 kf, .int .i64 ks, .int .i64 kl, .int .i64 kp, .slice ka kn kc] 28
    rw [show (w.alloc (.cells #[.int .i64 gf, .int .i64 gs, .int .i64 gl, .int .i64 gp, .slice ga gn gc] 28)).heap.size = w.heap.size + 1 by simp] at this
    exact this
  have HA : Hid (Below w.heap.size w ((w.alloc (.cells #[.int .i64 gf, .int .i64 gs, .int .i64 gl, .int .i64 gp, .slice ga gn gc] 28)).alloc (.cells #[.int .i64 kf, .int .i64 ks, .int .i64 kl, .int .i64 kp, .slice ka kn kc] 28))) := ext_alloc (ext_alloc (Below.refl _ _))
  go_enter Tryz.func12, Tryz.ntmps12
  as_aux_lemma =>
    go_upto_region 1 with (fail)
    generalize World.alloc (World.alloc w _) _ = w1 at HX HY HA ⊢
    obtain ⟨Y, hY⟩ : ∃ Y, Y = w.heap.size + 1 := ⟨_, rfl⟩
    obtain ⟨X, hX⟩ : ∃ X, X = w.heap.size := ⟨_, rfl⟩
    rw [← hY] at HY
    rw [← hX] at HX
    simp only [← hY]
    simp only [← hX]
    clear hX hY
    have x0 := HX.out.cell 0 rfl
    have x1 := HX.out.cell 1 rfl
    have x2 := HX.out.cell 2 rfl
    have x3 := HX.out.cell 3 rfl
    have x4 := HX.out.cell 4 rfl
    have y0 := HY.out.cell 0 rfl
    have y1 := HY.out.cell 1 rfl
    have y2 := HY.out.cell 2 rfl
    have y3 := HY.out.cell 3 rfl
    have y4 := HY.out.cell 4 rfl
    as_aux_lemma =>
      go_wp2_with fail
      refine (HCT2.out w1 HA.out).mono ?_
      rintro e w2 ⟨rfl, hb2⟩
      have HX2 := Lib.hid (HX.out.below hb2)
      have HY2 := Lib.hid (HY.out.below hb2)
      have HB2 := Lib.hid (ext_trans HA.out hb2)
      clear hb2 HX HY HA HCT2 x0 x1 x2 x3 x4 y0 y1 y2 y3 y4
      have x0 := HX2.out.cell 0 rfl
      have x1 := HX2.out.cell 1 rfl
      have x2 := HX2.out.cell 2 rfl
      have x3 := HX2.out.cell 3 rfl
      have x4 := HX2.out.cell 4 rfl
      have y0 := HY2.out.cell 0 rfl
      have y1 := HY2.out.cell 1 rfl
      have y2 := HY2.out.cell 2 rfl
      have y3 := HY2.out.cell 3 rfl
      have y4 := HY2.out.cell 4 rfl
      have hA : Below w2.heap.size w2 (w2.alloc (.cells #[.int .i64 gf, .int .i64 gs, .int .i64 gl, .int .i64 gp, .slice ga gn gc, .int .i64 kf, .int .i64 ks, .int .i64 kl, .int .i64 kp, .slice ka kn kc] 28)) := ext_alloc (Below.refl _ _)
      have HX3 := Lib.hid (HX2.out.below hA)
      have HY3 := Lib.hid (HY2.out.below hA)
      have HB3 := Lib.hid (ext_trans HB2.out hA)
      have HD3 := Lib.hid (HDL2.out w2 HB2.out)
      clear hA HX2 HY2 HB2 HDL2
      as_aux_lemma =>
        go_wp2_with (first | (refine wpList_val rfl (bl_ddf0 _ (fun _ => rfl) _ _ 23 24 gf gs gl gp ga gn gc kf ks kl kp ka kn kc rfl rfl rfl) ?_))
        generalize (w2.alloc (.cells #[.int .i64 gf, .int .i64 gs, .int .i64 gl, .int .i64 gp, .slice ga gn gc, .int .i64 kf, .int .i64 ks, .int .i64 kl, .int .i64 kp, .slice ka kn kc] 28)) = w3 at HX3 HY3 HB3 HD3 ⊢
        generalize w2.heap.size = V2 at HD3 ⊢
        clear x0 x1 x2 x3 x4 y0 y1 y2 y3 y4
        refine (prefixesOf_any w3 _ 2 _ _ HD3.out (by decide)).mono ?_
        rintro e w4 ⟨mb, D, rfl, hm4, hms, hmb, hb4⟩
        rw [HPT.out] at hm4 hms
        have HM4 := Lib.hid hm4
        have HMS := Lib.hid hms
        have HX4 := Lib.hid (HX3.out.below hb4)
        have HY4 := Lib.hid (HY3.out.below hb4)
        have HB4 := Lib.hid (ext_trans HB3.out hb4)
        have hk2 := HP2.out.few
        have HLI := Lib.hid (list_any K (by omega) mb K.length D hms w4 hm4)
        clear hm4 hms hmb hb4 HX3 HY3 HB3 HD3 HPT
        as_aux_lemma =>
          go_wp2_with fail
          refine HLI.out.mono ?_
          rintro e w5 ⟨v5, rfl, ho5, hb5⟩
          obtain ⟨va, vc, rfl⟩ := own_shape ho5
          have HO5 := Lib.hid ho5
          have HM5 := Lib.hid (own_mapB HM4.out hb5)
          have HX5 := Lib.hid (HX4.out.below hb5)
          have HY5 := Lib.hid (HY4.out.below hb5)
          have HB5 := Lib.hid (ext_trans HB4.out hb5)
          have hkl := once_len K
          generalize w4.heap.size = W4 at HO5
          clear ho5 hb5 HLI HM4 HX4 HY4 HB4
          as_aux_lemma =>
            go_wp2_with fail
            go_loopw [8, 30] (fun vo it wr => ∃ (i : Nat) (os : List (List UInt8)), i ≤ (onceL K).length ∧ it = .int .i64 i ∧ Hid (os = ((onceL K).take i).filter (diffS K grs krs)) ∧ Hid (wr.ownsRow w5.heap.size 9 1 vo os.length (os.map encS)) ∧ Hid (Below w5.heap.size w5 wr)) (fun _ it _ => (onceL K).length - (intOf it).toNat)
            case atStart => exact ⟨0, [], Nat.zero_le _, rfl, rfl, World.ownsRow_nil _ _ _ _, Below.refl _ _⟩
            case round =>
              obtain ⟨i, os, hin, rfl, HU, HO, HB⟩ := hrel
              obtain ⟨vo, rfl⟩ : ∃ x : Value, x = u8 := ⟨_, rfl⟩
              have hol : os.length ≤ 200 := by
                have h9 := filter_take_lenG (diffS K grs krs) (onceL K) i
                rw [← HU.out] at h9
                omega
              by_cases hlt : i < (onceL K).length
              case neg =>
                have hii : i = (onceL K).length := by omega
                have HE : Hid (ListPostE R 0 w (.returned (.tuple #[vo, .int .i64 0])) wr) := by
                  have e : os = R := by rw [HDV.out, HU.out, hii, List.take_length]
                  rw [← e]
                  exact ⟨vo, rfl, own_le HO.out HB5.out.size, ext_trans HB5.out HB.out⟩
                have hnn : ¬ (i : Int) < ((onceL K).length : Int) := by omega
                clear HU HO HB HDV HX5 HY5 HM5 HO5 HB5
                as_aux_lemma =>
                  go_wp2_with fail
                  go_ret2
                  exact HE.out
              have hlti : (i : Int) < ((onceL K).length : Int) := by omega
              have HOL := Lib.hid (own_keep HO5.out HB.out)
              obtain ⟨g, rfl, hg0, hg1⟩ := own_pos HOL.out (by omega)
              have c0 : wr.cell? ⟨g, i, none⟩ = some (.string ⟨((onceL K).getD i []).toArray⟩) := by
                have h9 := HOL.out.cellAt i (by omega)
                rw [h9]
                simp [encS, List.getD_eq_getElem?_getD, hlt]
              have hsl := HP2.out.at_ i
              have HST : Hid (((onceL K).take (i + 1)).filter (diffS K grs krs) = ((onceL K).take i).filter (diffS K grs krs) ++ (if diffS K grs krs ((onceL K).getD i []) = true then [(onceL K).getD i []] else [])) := filter_stepG _ _ [] i hlt
              generalize (onceL K).getD i [] = s at c0 hsl HST
              have HDS : Hid (diffS K grs krs s = ((leastV K s).isSome && diffO (rateOf grs s s.length).isSome (rateOf krs s s.length).isSome ((rateOf grs s s.length).getD noRate) ((rateOf krs s s.length).getD noRate))) := rfl
              have HLS : Hid (Calls Tryz.prog 50 #[.map (some mb), .string ⟨s.toArray⟩] wr (LeastPost (leastV K s) wr)) := least_any K mb K.length D HMS.out (4 - s.length) s wr (own_mapB HM5.out HB.out) (by omega) rfl
              generalize leastV K s = o at HDS HLS
              clear HOL
              as_aux_lemma =>
                go_wp2_with fail
                refine HLS.out.mono ?_
                rintro e w6 ⟨rfl, hb6⟩
                have HB9 := Lib.hid (ext_trans HB.out hb6)
                have HO9 := Lib.hid (own_keep HO.out hb6)
                clear HLS hb6 HO HB c0
                cases o with
                | none =>
                  have hq : diffS K grs krs s = false := HDS.out
                  have HN : Hid (os = ((onceL K).take (i + 1)).filter (diffS K grs krs)) := by
                    show _ = _
                    rw [HST.out, HU.out, if_neg (by rw [hq]; decide), List.append_nil]
                  clear hq HDS HST HU
                  as_aux_lemma =>
                    go_wp2_with fail
                    go_roundw
                    case rel => exact ⟨i + 1, os, by omega, by go_num, HN.out, HO9.out, HB9.out⟩
                    case measure => simp [intOf]; omega
                | some x =>
                  have HDS2 : Hid (diffS K grs krs s = diffO (rateOf grs s s.length).isSome (rateOf krs s s.length).isSome ((rateOf grs s s.length).getD noRate) ((rateOf krs s s.length).getD noRate)) := HDS.out
                  have HR1 : Hid (∀ W, Below w5.heap.size w5 W → Calls Tryz.prog 51 #[.agg #[.int .i64 gf, .int .i64 gs, .int .i64 gl, .int .i64 gp, .slice ga gn gc], .string ⟨s.toArray⟩, .int .i64 (s.length : Int)] W (RatePost (rateOf grs s s.length) W)) := fun W hW => rate_any W gf gs gl gp ga gn gc grs s s.length (HRA.out.below (ext_trans HB5.out hW)) HSA2.out (by omega) (by omega)
                  have HR2 : Hid (∀ W, Below w5.heap.size w5 W → Calls Tryz.prog 51 #[.agg #[.int .i64 kf, .int .i64 ks, .int .i64 kl, .int .i64 kp, .slice ka kn kc], .string ⟨s.toArray⟩, .int .i64 (s.length : Int)] W (RatePost (rateOf krs s s.length) W)) := fun W hW => rate_any W kf ks kl kp ka kn kc krs s s.length (HRB.out.below (ext_trans HB5.out hW)) HSB2.out (by omega) (by omega)
                  generalize rateOf grs s s.length = o1 at HDS2 HR1
                  generalize rateOf krs s s.length = o2 at HDS2 HR2
                  clear HDS
                  have HX6 := Lib.hid (HX5.out.below HB9.out)
                  have HY6 := Lib.hid (HY5.out.below HB9.out)
                  have x0 := HX6.out.cell 0 rfl
                  have x1 := HX6.out.cell 1 rfl
                  have x2 := HX6.out.cell 2 rfl
                  have x3 := HX6.out.cell 3 rfl
                  have x4 := HX6.out.cell 4 rfl
                  as_aux_lemma =>
                    go_wp2_with fail
                    refine (HR1.out w6 HB9.out).mono ?_
                    intro e w7 hrp
                    obtain ⟨hb7, rfl⟩ := ratePostD hrp
                    generalize o1.getD noRate = r1 at HDS2
                    generalize o1.isSome = f1 at HDS2
                    obtain ⟨r1p, r1q, r1l⟩ := r1
                    clear hrp HR1 x0 x1 x2 x3 x4
                    have HY7 := Lib.hid (HY6.out.below hb7)
                    have HB7 := Lib.hid (ext_trans HB9.out hb7)
                    have HO7 := Lib.hid (own_keep HO9.out hb7)
                    clear hb7 HB9 HO9 HX6 HY6
                    simp only
                    have hA : Below w7.heap.size w7 (w7.alloc (.cells #[.string ⟨r1p.toArray⟩, .int .i64 r1q, .bool r1l] 51)) := ext_alloc (Below.refl _ _)
                    have HP8 : Hid (Blk (w7.alloc (.cells #[.string ⟨r1p.toArray⟩, .int .i64 r1q, .bool r1l] 51)) w7.heap.size [.string ⟨r1p.toArray⟩, .int .i64 r1q, .bool r1l] 51) := Blk.new w7 [.string ⟨r1p.toArray⟩, .int .i64 r1q, .bool r1l] 51
                    have HY8 := Lib.hid (HY7.out.below hA)
                    have HB8 := Lib.hid (ext_trans HB7.out hA)
                    have HO8 := Lib.hid (own_keep HO7.out hA)
                    clear hA HY7 HB7 HO7
                    as_aux_lemma =>
                      go_upto_region 12 with (fail)
                      generalize (w7.alloc (.cells #[.string ⟨r1p.toArray⟩, .int .i64 r1q, .bool r1l] 51)) = w8 at HP8 HY8 HB8 HO8 ⊢
                      generalize w7.heap.size = P at HP8 ⊢
                      have y0 := HY8.out.cell 0 rfl
                      have y1 := HY8.out.cell 1 rfl
                      have y2 := HY8.out.cell 2 rfl
                      have y3 := HY8.out.cell 3 rfl
                      have y4 := HY8.out.cell 4 rfl
                      as_aux_lemma =>
                        go_wp2_with fail
                        refine (HR2.out w8 HB8.out).mono ?_
                        intro e w3 hrp
                        obtain ⟨hb3, rfl⟩ := ratePostD hrp
                        generalize o2.getD noRate = r2 at HDS2
                        generalize o2.isSome = f2 at HDS2
                        obtain ⟨r2p, r2q, r2l⟩ := r2
                        have HDS : Hid (diffS K grs krs s = diffO f1 f2 ⟨r1p, r1q, r1l⟩ ⟨r2p, r2q, r2l⟩) := HDS2
                        clear hrp HR2 y0 y1 y2 y3 y4 HDS2
                        have HP3 := Lib.hid (HP8.out.below hb3)
                        have HB3 := Lib.hid (ext_trans HB8.out hb3)
                        have HO3 := Lib.hid (own_keep HO8.out hb3)
                        clear hb3 HB8 HO8 HP8 HY8
                        simp only
                        have hA : Below w3.heap.size w3 (w3.alloc (.cells #[.string ⟨r2p.toArray⟩, .int .i64 r2q, .bool r2l] 51)) := ext_alloc (Below.refl _ _)
                        have HQ9 : Hid (Blk (w3.alloc (.cells #[.string ⟨r2p.toArray⟩, .int .i64 r2q, .bool r2l] 51)) w3.heap.size [.string ⟨r2p.toArray⟩, .int .i64 r2q, .bool r2l] 51) := Blk.new w3 [.string ⟨r2p.toArray⟩, .int .i64 r2q, .bool r2l] 51
                        have HP9 := Lib.hid (HP3.out.below hA)
                        have HB9 := Lib.hid (ext_trans HB3.out hA)
                        have HO9 := Lib.hid (own_keep HO3.out hA)
                        clear hA HP3 HB3 HO3
                        as_aux_lemma =>
                          go_upto_region 13 with (fail)
                          generalize (w3.alloc (.cells #[.string ⟨r2p.toArray⟩, .int .i64 r2q, .bool r2l] 51)) = w9 at HQ9 HP9 HB9 HO9 ⊢
                          generalize w3.heap.size = Q at HQ9 ⊢
                          have p1 := HP9.out.cell 1 rfl
                          have p2 := HP9.out.cell 2 rfl
                          have q1 := HQ9.out.cell 1 rfl
                          have q2 := HQ9.out.cell 2 rfl
                          clear HP9 HQ9
                          cases f1
                          case false =>
                            cases f2
                            case false =>
                              by_cases hqq : r1q = r2q
                              · subst hqq
                                cases r1l
                                case false =>
                                  cases r2l
                                  case false =>
                                    have hq : diffS K grs krs s = false := by rw [HDS.out]; simp [diffO]
                                    have HN : Hid (os = ((onceL K).take (i + 1)).filter (diffS K grs krs)) := by
                                      show _ = _
                                      rw [HST.out, HU.out, if_neg (by rw [hq]; decide), List.append_nil]
                                    clear hq HDS HST HU
                                    as_aux_lemma =>
                                      go_wp2_with fail
                                      go_roundw
                                      case rel => exact ⟨i + 1, os, by omega, by go_num, HN.out, HO9.out, HB9.out⟩
                                      case measure => simp [intOf]; omega
                                  case true =>
                                    have hq : diffS K grs krs s = true := by rw [HDS.out]; simp [diffO]
                                    have HN : Hid (os ++ [s] = ((onceL K).take (i + 1)).filter (diffS K grs krs)) := by
                                      show _ = _
                                      rw [HST.out, HU.out, if_pos hq]
                                    clear hq HDS HST HU
                                    have hoz := HO9.out
                                    obtain ⟨oa, oc, rfl⟩ := own_shape hoz
                                    have hrow : w5.heap.size ≤ w9.heap.size := HB9.out.size
                                    have HOA : Hid (World.ownsRow (w9.alloc (.cells #[.string ⟨s.toArray⟩] 9)) w5.heap.size 9 1 (.slice oa os.length oc) os.length (os.map encS)) := World.ownsRow.alloc hoz (.cells #[.string ⟨s.toArray⟩] 9)
                                    have HNA : Hid (Blk (w9.alloc (.cells #[.string ⟨s.toArray⟩] 9)) w9.heap.size [.string ⟨s.toArray⟩] 9) := Blk.new w9 [.string ⟨s.toArray⟩] 9
                                    have hvw : ∀ b, (Value.slice oa os.length oc).ownBlock = some b → w5.heap.size ≤ b := fun b e => (hoz.lt b e).1
                                    clear hoz
                                    as_aux_lemma =>
                                      go_wp2_with (first | (refine wpList_val rfl (bl_ddf1 _ (fun _ => rfl) _ _ 76 ⟨s.toArray⟩ rfl rfl) ?_) | (at_builtin; go_loud (refine wpList_append_own_at _ rfl (.tmp 75) (.tmp 77) 38 rfl w5.heap.size 9 i0 _ 1 16 Tryz.underlying38 hi hz0 hz1 hz2 rfl (by omega) (.slice oa os.length oc) os.length _ rfl HOA.out ⟨w9.heap.size, 0, none⟩ 1 1 [.string ⟨s.toArray⟩] rfl rfl (fun j u hj => by rw [add0]; exact HNA.out.cell j hj) (by simp [Value.oneCell']) (by simp only [maxLen]; omega) (by omega) (by simp; omega) ?_); intro v12 w12 hown12 hgr12 _ hat12; have HQ1 := Lib.hid hown12; have HQ2 := Lib.hid hgr12; clear hown12 hgr12 hat12 HOA HNA; refine Hid.out ?_))
                                      refine Lib.hid ?_
                                      have HO12 : Hid (w12.ownsRow w5.heap.size 9 1 v12 (os ++ [s]).length ((os ++ [s]).map encS)) := by
                                        show World.ownsRow _ _ _ _ _ _ _
                                        rw [List.map_append, List.length_append]
                                        exact HQ1.out
                                      have HB12 : Hid (Below w5.heap.size w5 w12) := HB9.out.trans (upto_grown HQ2.out hrow hvw)
                                      clear HQ1 HQ2 HO9 HB9
                                      as_aux_lemma =>
                                        go_wp2_with fail
                                        go_roundw
                                        case rel => exact ⟨i + 1, os ++ [s], by omega, by go_num, HN.out, HO12.out, HB12.out⟩
                                        case measure => simp [intOf]; omega
                                case true =>
                                  cases r2l
                                  case false =>
                                    have hq : diffS K grs krs s = true := by rw [HDS.out]; simp [diffO]
                                    have HN : Hid (os ++ [s] = ((onceL K).take (i + 1)).filter (diffS K grs krs)) := by
                                      show _ = _
                                      rw [HST.out, HU.out, if_pos hq]
                                    clear hq HDS HST HU
                                    have hoz := HO9.out
                                    obtain ⟨oa, oc, rfl⟩ := own_shape hoz
                                    have hrow : w5.heap.size ≤ w9.heap.size := HB9.out.size
                                    have HOA : Hid (World.ownsRow (w9.alloc (.cells #[.string ⟨s.toArray⟩] 9)) w5.heap.size 9 1 (.slice oa os.length oc) os.length (os.map encS)) := World.ownsRow.alloc hoz (.cells #[.string ⟨s.toArray⟩] 9)
                                    have HNA : Hid (Blk (w9.alloc (.cells #[.string ⟨s.toArray⟩] 9)) w9.heap.size [.string ⟨s.toArray⟩] 9) := Blk.new w9 [.string ⟨s.toArray⟩] 9
                                    have hvw : ∀ b, (Value.slice oa os.length oc).ownBlock = some b → w5.heap.size ≤ b := fun b e => (hoz.lt b e).1
                                    clear hoz
                                    as_aux_lemma =>
                                      go_wp2_with (first | (refine wpList_val rfl (bl_ddf1 _ (fun _ => rfl) _ _ 76 ⟨s.toArray⟩ rfl rfl) ?_) | (at_builtin; go_loud (refine wpList_append_own_at _ rfl (.tmp 75) (.tmp 77) 38 rfl w5.heap.size 9 i0 _ 1 16 Tryz.underlying38 hi hz0 hz1 hz2 rfl (by omega) (.slice oa os.length oc) os.length _ rfl HOA.out ⟨w9.heap.size, 0, none⟩ 1 1 [.string ⟨s.toArray⟩] rfl rfl (fun j u hj => by rw [add0]; exact HNA.out.cell j hj) (by simp [Value.oneCell']) (by simp only [maxLen]; omega) (by omega) (by simp; omega) ?_); intro v12 w12 hown12 hgr12 _ hat12; have HQ1 := Lib.hid hown12; have HQ2 := Lib.hid hgr12; clear hown12 hgr12 hat12 HOA HNA; refine Hid.out ?_))
                                      refine Lib.hid ?_
                                      have HO12 : Hid (w12.ownsRow w5.heap.size 9 1 v12 (os ++ [s]).length ((os ++ [s]).map encS)) := by
                                        show World.ownsRow _ _ _ _ _ _ _
                                        rw [List.map_append, List.length_append]
                                        exact HQ1.out
                                      have HB12 : Hid (Below w5.heap.size w5 w12) := HB9.out.trans (upto_grown HQ2.out hrow hvw)
                                      clear HQ1 HQ2 HO9 HB9
                                      as_aux_lemma =>
                                        go_wp2_with fail
                                        go_roundw
                                        case rel => exact ⟨i + 1, os ++ [s], by omega, by go_num, HN.out, HO12.out, HB12.out⟩
                                        case measure => simp [intOf]; omega
                                  case true =>
                                    have hq : diffS K grs krs s = false := by rw [HDS.out]; simp [diffO]
                                    have HN : Hid (os = ((onceL K).take (i + 1)).filter (diffS K grs krs)) := by
                                      show _ = _
                                      rw [HST.out, HU.out, if_neg (by rw [hq]; decide), List.append_nil]
                                    clear hq HDS HST HU
                                    as_aux_lemma =>
                                      go_wp2_with fail
                                      go_roundw
                                      case rel => exact ⟨i + 1, os, by omega, by go_num, HN.out, HO9.out, HB9.out⟩
                                      case measure => simp [intOf]; omega
                              have hqb : (r1q == r2q) = false := beq_eq_false_iff_ne.2 hqq
                              have hq : diffS K grs krs s = true := by rw [HDS.out]; unfold diffO; simp [hqq]
                              have HN : Hid (os ++ [s] = ((onceL K).take (i + 1)).filter (diffS K grs krs)) := by
                                show _ = _
                                rw [HST.out, HU.out, if_pos hq]
                              clear hq HDS HST HU
                              have hoz := HO9.out
                              obtain ⟨oa, oc, rfl⟩ := own_shape hoz
                              have hrow : w5.heap.size ≤ w9.heap.size := HB9.out.size
                              have HOA : Hid (World.ownsRow (w9.alloc (.cells #[.string ⟨s.toArray⟩] 9)) w5.heap.size 9 1 (.slice oa os.length oc) os.length (os.map encS)) := World.ownsRow.alloc hoz (.cells #[.string ⟨s.toArray⟩] 9)
                              have HNA : Hid (Blk (w9.alloc (.cells #[.string ⟨s.toArray⟩] 9)) w9.heap.size [.string ⟨s.toArray⟩] 9) := Blk.new w9 [.string ⟨s.toArray⟩] 9
                              have hvw : ∀ b, (Value.slice oa os.length oc).ownBlock = some b → w5.heap.size ≤ b := fun b e => (hoz.lt b e).1
                              clear hoz
                              as_aux_lemma =>
                                go_wp2_with (first | (refine wpList_val rfl (bl_ddf1 _ (fun _ => rfl) _ _ 76 ⟨s.toArray⟩ rfl rfl) ?_) | (at_builtin; go_loud (refine wpList_append_own_at _ rfl (.tmp 75) (.tmp 77) 38 rfl w5.heap.size 9 i0 _ 1 16 Tryz.underlying38 hi hz0 hz1 hz2 rfl (by omega) (.slice oa os.length oc) os.length _ rfl HOA.out ⟨w9.heap.size, 0, none⟩ 1 1 [.string ⟨s.toArray⟩] rfl rfl (fun j u hj => by rw [add0]; exact HNA.out.cell j hj) (by simp [Value.oneCell']) (by simp only [maxLen]; omega) (by omega) (by simp; omega) ?_); intro v12 w12 hown12 hgr12 _ hat12; have HQ1 := Lib.hid hown12; have HQ2 := Lib.hid hgr12; clear hown12 hgr12 hat12 HOA HNA; refine Hid.out ?_))
                                refine Lib.hid ?_
                                have HO12 : Hid (w12.ownsRow w5.heap.size 9 1 v12 (os ++ [s]).length ((os ++ [s]).map encS)) := by
                                  show World.ownsRow _ _ _ _ _ _ _
                                  rw [List.map_append, List.length_append]
                                  exact HQ1.out
                                have HB12 : Hid (Below w5.heap.size w5 w12) := HB9.out.trans (upto_grown HQ2.out hrow hvw)
                                clear HQ1 HQ2 HO9 HB9
                                as_aux_lemma =>
                                  go_wp2_with fail
                                  go_roundw
                                  case rel => exact ⟨i + 1, os ++ [s], by omega, by go_num, HN.out, HO12.out, HB12.out⟩
                                  case measure => simp [intOf]; omega
                            case true =>
                              have hq : diffS K grs krs s = true := by rw [HDS.out]; rfl
                              have HN : Hid (os ++ [s] = ((onceL K).take (i + 1)).filter (diffS K grs krs)) := by
                                show _ = _
                                rw [HST.out, HU.out, if_pos hq]
                              clear hq HDS HST HU
                              have hoz := HO9.out
                              obtain ⟨oa, oc, rfl⟩ := own_shape hoz
                              have hrow : w5.heap.size ≤ w9.heap.size := HB9.out.size
                              have HOA : Hid (World.ownsRow (w9.alloc (.cells #[.string ⟨s.toArray⟩] 9)) w5.heap.size 9 1 (.slice oa os.length oc) os.length (os.map encS)) := World.ownsRow.alloc hoz (.cells #[.string ⟨s.toArray⟩] 9)
                              have HNA : Hid (Blk (w9.alloc (.cells #[.string ⟨s.toArray⟩] 9)) w9.heap.size [.string ⟨s.toArray⟩] 9) := Blk.new w9 [.string ⟨s.toArray⟩] 9
                              have hvw : ∀ b, (Value.slice oa os.length oc).ownBlock = some b → w5.heap.size ≤ b := fun b e => (hoz.lt b e).1
                              clear hoz
                              as_aux_lemma =>
                                go_wp2_with (first | (refine wpList_val rfl (bl_ddf1 _ (fun _ => rfl) _ _ 76 ⟨s.toArray⟩ rfl rfl) ?_) | (at_builtin; go_loud (refine wpList_append_own_at _ rfl (.tmp 75) (.tmp 77) 38 rfl w5.heap.size 9 i0 _ 1 16 Tryz.underlying38 hi hz0 hz1 hz2 rfl (by omega) (.slice oa os.length oc) os.length _ rfl HOA.out ⟨w9.heap.size, 0, none⟩ 1 1 [.string ⟨s.toArray⟩] rfl rfl (fun j u hj => by rw [add0]; exact HNA.out.cell j hj) (by simp [Value.oneCell']) (by simp only [maxLen]; omega) (by omega) (by simp; omega) ?_); intro v12 w12 hown12 hgr12 _ hat12; have HQ1 := Lib.hid hown12; have HQ2 := Lib.hid hgr12; clear hown12 hgr12 hat12 HOA HNA; refine Hid.out ?_))
                                refine Lib.hid ?_
                                have HO12 : Hid (w12.ownsRow w5.heap.size 9 1 v12 (os ++ [s]).length ((os ++ [s]).map encS)) := by
                                  show World.ownsRow _ _ _ _ _ _ _
                                  rw [List.map_append, List.length_append]
                                  exact HQ1.out
                                have HB12 : Hid (Below w5.heap.size w5 w12) := HB9.out.trans (upto_grown HQ2.out hrow hvw)
                                clear HQ1 HQ2 HO9 HB9
                                as_aux_lemma =>
                                  go_wp2_with fail
                                  go_roundw
                                  case rel => exact ⟨i + 1, os ++ [s], by omega, by go_num, HN.out, HO12.out, HB12.out⟩
                                  case measure => simp [intOf]; omega
                          case true =>
                            cases f2
                            case false =>
                              have hq : diffS K grs krs s = true := by rw [HDS.out]; rfl
                              have HN : Hid (os ++ [s] = ((onceL K).take (i + 1)).filter (diffS K grs krs)) := by
                                show _ = _
                                rw [HST.out, HU.out, if_pos hq]
                              clear hq HDS HST HU
                              have hoz := HO9.out
                              obtain ⟨oa, oc, rfl⟩ := own_shape hoz
                              have hrow : w5.heap.size ≤ w9.heap.size := HB9.out.size
                              have HOA : Hid (World.ownsRow (w9.alloc (.cells #[.string ⟨s.toArray⟩] 9)) w5.heap.size 9 1 (.slice oa os.length oc) os.length (os.map encS)) := World.ownsRow.alloc hoz (.cells #[.string ⟨s.toArray⟩] 9)
                              have HNA : Hid (Blk (w9.alloc (.cells #[.string ⟨s.toArray⟩] 9)) w9.heap.size [.string ⟨s.toArray⟩] 9) := Blk.new w9 [.string ⟨s.toArray⟩] 9
                              have hvw : ∀ b, (Value.slice oa os.length oc).ownBlock = some b → w5.heap.size ≤ b := fun b e => (hoz.lt b e).1
                              clear hoz
                              as_aux_lemma =>
                                go_wp2_with (first | (refine wpList_val rfl (bl_ddf1 _ (fun _ => rfl) _ _ 76 ⟨s.toArray⟩ rfl rfl) ?_) | (at_builtin; go_loud (refine wpList_append_own_at _ rfl (.tmp 75) (.tmp 77) 38 rfl w5.heap.size 9 i0 _ 1 16 Tryz.underlying38 hi hz0 hz1 hz2 rfl (by omega) (.slice oa os.length oc) os.length _ rfl HOA.out ⟨w9.heap.size, 0, none⟩ 1 1 [.string ⟨s.toArray⟩] rfl rfl (fun j u hj => by rw [add0]; exact HNA.out.cell j hj) (by simp [Value.oneCell']) (by simp only [maxLen]; omega) (by omega) (by simp; omega) ?_); intro v12 w12 hown12 hgr12 _ hat12; have HQ1 := Lib.hid hown12; have HQ2 := Lib.hid hgr12; clear hown12 hgr12 hat12 HOA HNA; refine Hid.out ?_))
                                refine Lib.hid ?_
                                have HO12 : Hid (w12.ownsRow w5.heap.size 9 1 v12 (os ++ [s]).length ((os ++ [s]).map encS)) := by
                                  show World.ownsRow _ _ _ _ _ _ _
                                  rw [List.map_append, List.length_append]
                                  exact HQ1.out
                                have HB12 : Hid (Below w5.heap.size w5 w12) := HB9.out.trans (upto_grown HQ2.out hrow hvw)
                                clear HQ1 HQ2 HO9 HB9
                                as_aux_lemma =>
                                  go_wp2_with fail
                                  go_roundw
                                  case rel => exact ⟨i + 1, os ++ [s], by omega, by go_num, HN.out, HO12.out, HB12.out⟩
                                  case measure => simp [intOf]; omega
                            case true =>
                              by_cases hqq : r1q = r2q
                              · subst hqq
                                cases r1l
                                case false =>
                                  cases r2l
                                  case false =>
                                    have hq : diffS K grs krs s = false := by rw [HDS.out]; simp [diffO]
                                    have HN : Hid (os = ((onceL K).take (i + 1)).filter (diffS K grs krs)) := by
                                      show _ = _
                                      rw [HST.out, HU.out, if_neg (by rw [hq]; decide), List.append_nil]
                                    clear hq HDS HST HU
                                    as_aux_lemma =>
                                      go_wp2_with fail
                                      go_roundw
                                      case rel => exact ⟨i + 1, os, by omega, by go_num, HN.out, HO9.out, HB9.out⟩
                                      case measure => simp [intOf]; omega
                                  case true =>
                                    have hq : diffS K grs krs s = true := by rw [HDS.out]; simp [diffO]
                                    have HN : Hid (os ++ [s] = ((onceL K).take (i + 1)).filter (diffS K grs krs)) := by
                                      show _ = _
                                      rw [HST.out, HU.out, if_pos hq]
                                    clear hq HDS HST HU
                                    have hoz := HO9.out
                                    obtain ⟨oa, oc, rfl⟩ := own_shape hoz
                                    have hrow : w5.heap.size ≤ w9.heap.size := HB9.out.size
                                    have HOA : Hid (World.ownsRow (w9.alloc (.cells #[.string ⟨s.toArray⟩] 9)) w5.heap.size 9 1 (.slice oa os.length oc) os.length (os.map encS)) := World.ownsRow.alloc hoz (.cells #[.string ⟨s.toArray⟩] 9)
                                    have HNA : Hid (Blk (w9.alloc (.cells #[.string ⟨s.toArray⟩] 9)) w9.heap.size [.string ⟨s.toArray⟩] 9) := Blk.new w9 [.string ⟨s.toArray⟩] 9
                                    have hvw : ∀ b, (Value.slice oa os.length oc).ownBlock = some b → w5.heap.size ≤ b := fun b e => (hoz.lt b e).1
                                    clear hoz
                                    as_aux_lemma =>
                                      go_wp2_with (first | (refine wpList_val rfl (bl_ddf1 _ (fun _ => rfl) _ _ 76 ⟨s.toArray⟩ rfl rfl) ?_) | (at_builtin; go_loud (refine wpList_append_own_at _ rfl (.tmp 75) (.tmp 77) 38 rfl w5.heap.size 9 i0 _ 1 16 Tryz.underlying38 hi hz0 hz1 hz2 rfl (by omega) (.slice oa os.length oc) os.length _ rfl HOA.out ⟨w9.heap.size, 0, none⟩ 1 1 [.string ⟨s.toArray⟩] rfl rfl (fun j u hj => by rw [add0]; exact HNA.out.cell j hj) (by simp [Value.oneCell']) (by simp only [maxLen]; omega) (by omega) (by simp; omega) ?_); intro v12 w12 hown12 hgr12 _ hat12; have HQ1 := Lib.hid hown12; have HQ2 := Lib.hid hgr12; clear hown12 hgr12 hat12 HOA HNA; refine Hid.out ?_))
                                      refine Lib.hid ?_
                                      have HO12 : Hid (w12.ownsRow w5.heap.size 9 1 v12 (os ++ [s]).length ((os ++ [s]).map encS)) := by
                                        show World.ownsRow _ _ _ _ _ _ _
                                        rw [List.map_append, List.length_append]
                                        exact HQ1.out
                                      have HB12 : Hid (Below w5.heap.size w5 w12) := HB9.out.trans (upto_grown HQ2.out hrow hvw)
                                      clear HQ1 HQ2 HO9 HB9
                                      as_aux_lemma =>
                                        go_wp2_with fail
                                        go_roundw
                                        case rel => exact ⟨i + 1, os ++ [s], by omega, by go_num, HN.out, HO12.out, HB12.out⟩
                                        case measure => simp [intOf]; omega
                                case true =>
                                  cases r2l
                                  case false =>
                                    have hq : diffS K grs krs s = true := by rw [HDS.out]; simp [diffO]
                                    have HN : Hid (os ++ [s] = ((onceL K).take (i + 1)).filter (diffS K grs krs)) := by
                                      show _ = _
                                      rw [HST.out, HU.out, if_pos hq]
                                    clear hq HDS HST HU
                                    have hoz := HO9.out
                                    obtain ⟨oa, oc, rfl⟩ := own_shape hoz
                                    have hrow : w5.heap.size ≤ w9.heap.size := HB9.out.size
                                    have HOA : Hid (World.ownsRow (w9.alloc (.cells #[.string ⟨s.toArray⟩] 9)) w5.heap.size 9 1 (.slice oa os.length oc) os.length (os.map encS)) := World.ownsRow.alloc hoz (.cells #[.string ⟨s.toArray⟩] 9)
                                    have HNA : Hid (Blk (w9.alloc (.cells #[.string ⟨s.toArray⟩] 9)) w9.heap.size [.string ⟨s.toArray⟩] 9) := Blk.new w9 [.string ⟨s.toArray⟩] 9
                                    have hvw : ∀ b, (Value.slice oa os.length oc).ownBlock = some b → w5.heap.size ≤ b := fun b e => (hoz.lt b e).1
                                    clear hoz
                                    as_aux_lemma =>
                                      go_wp2_with (first | (refine wpList_val rfl (bl_ddf1 _ (fun _ => rfl) _ _ 76 ⟨s.toArray⟩ rfl rfl) ?_) | (at_builtin; go_loud (refine wpList_append_own_at _ rfl (.tmp 75) (.tmp 77) 38 rfl w5.heap.size 9 i0 _ 1 16 Tryz.underlying38 hi hz0 hz1 hz2 rfl (by omega) (.slice oa os.length oc) os.length _ rfl HOA.out ⟨w9.heap.size, 0, none⟩ 1 1 [.string ⟨s.toArray⟩] rfl rfl (fun j u hj => by rw [add0]; exact HNA.out.cell j hj) (by simp [Value.oneCell']) (by simp only [maxLen]; omega) (by omega) (by simp; omega) ?_); intro v12 w12 hown12 hgr12 _ hat12; have HQ1 := Lib.hid hown12; have HQ2 := Lib.hid hgr12; clear hown12 hgr12 hat12 HOA HNA; refine Hid.out ?_))
                                      refine Lib.hid ?_
                                      have HO12 : Hid (w12.ownsRow w5.heap.size 9 1 v12 (os ++ [s]).length ((os ++ [s]).map encS)) := by
                                        show World.ownsRow _ _ _ _ _ _ _
                                        rw [List.map_append, List.length_append]
                                        exact HQ1.out
                                      have HB12 : Hid (Below w5.heap.size w5 w12) := HB9.out.trans (upto_grown HQ2.out hrow hvw)
                                      clear HQ1 HQ2 HO9 HB9
                                      as_aux_lemma =>
                                        go_wp2_with fail
                                        go_roundw
                                        case rel => exact ⟨i + 1, os ++ [s], by omega, by go_num, HN.out, HO12.out, HB12.out⟩
                                        case measure => simp [intOf]; omega
                                  case true =>
                                    have hq : diffS K grs krs s = false := by rw [HDS.out]; simp [diffO]
                                    have HN : Hid (os = ((onceL K).take (i + 1)).filter (diffS K grs krs)) := by
                                      show _ = _
                                      rw [HST.out, HU.out, if_neg (by rw [hq]; decide), List.append_nil]
                                    clear hq HDS HST HU
                                    as_aux_lemma =>
                                      go_wp2_with fail
                                      go_roundw
                                      case rel => exact ⟨i + 1, os, by omega, by go_num, HN.out, HO9.out, HB9.out⟩
                                      case measure => simp [intOf]; omega
                              have hqb : (r1q == r2q) = false := beq_eq_false_iff_ne.2 hqq
                              have hq : diffS K grs krs s = true := by rw [HDS.out]; unfold diffO; simp [hqq]
                              have HN : Hid (os ++ [s] = ((onceL K).take (i + 1)).filter (diffS K grs krs)) := by
                                show _ = _
                                rw [HST.out, HU.out, if_pos hq]
                              clear hq HDS HST HU
                              have hoz := HO9.out
                              obtain ⟨oa, oc, rfl⟩ := own_shape hoz
                              have hrow : w5.heap.size ≤ w9.heap.size := HB9.out.size
                              have HOA : Hid (World.ownsRow (w9.alloc (.cells #[.string ⟨s.toArray⟩] 9)) w5.heap.size 9 1 (.slice oa os.length oc) os.length (os.map encS)) := World.ownsRow.alloc hoz (.cells #[.string ⟨s.toArray⟩] 9)
                              have HNA : Hid (Blk (w9.alloc (.cells #[.string ⟨s.toArray⟩] 9)) w9.heap.size [.string ⟨s.toArray⟩] 9) := Blk.new w9 [.string ⟨s.toArray⟩] 9
                              have hvw : ∀ b, (Value.slice oa os.length oc).ownBlock = some b → w5.heap.size ≤ b := fun b e => (hoz.lt b e).1
                              clear hoz
                              as_aux_lemma =>
                                go_wp2_with (first | (refine wpList_val rfl (bl_ddf1 _ (fun _ => rfl) _ _ 76 ⟨s.toArray⟩ rfl rfl) ?_) | (at_builtin; go_loud (refine wpList_append_own_at _ rfl (.tmp 75) (.tmp 77) 38 rfl w5.heap.size 9 i0 _ 1 16 Tryz.underlying38 hi hz0 hz1 hz2 rfl (by omega) (.slice oa os.length oc) os.length _ rfl HOA.out ⟨w9.heap.size, 0, none⟩ 1 1 [.string ⟨s.toArray⟩] rfl rfl (fun j u hj => by rw [add0]; exact HNA.out.cell j hj) (by simp [Value.oneCell']) (by simp only [maxLen]; omega) (by omega) (by simp; omega) ?_); intro v12 w12 hown12 hgr12 _ hat12; have HQ1 := Lib.hid hown12; have HQ2 := Lib.hid hgr12; clear hown12 hgr12 hat12 HOA HNA; refine Hid.out ?_))
                                refine Lib.hid ?_
                                have HO12 : Hid (w12.ownsRow w5.heap.size 9 1 v12 (os ++ [s]).length ((os ++ [s]).map encS)) := by
                                  show World.ownsRow _ _ _ _ _ _ _
                                  rw [List.map_append, List.length_append]
                                  exact HQ1.out
                                have HB12 : Hid (Below w5.heap.size w5 w12) := HB9.out.trans (upto_grown HQ2.out hrow hvw)
                                clear HQ1 HQ2 HO9 HB9
                                as_aux_lemma =>
                                  go_wp2_with fail
                                  go_roundw
                                  case rel => exact ⟨i + 1, os ++ [s], by omega, by go_num, HN.out, HO12.out, HB12.out⟩
                                  case measure => simp [intOf]; omega
end Go.Proofs.YtacekbbndamkmaaGreatDoor

set_option linter.unusedVariables false
set_option linter.unusedSimpArgs false
namespace Go.Proofs.YtacekbbndamkmaaGreatDoor
open Go.RowKit
open Go.Maps

theorem pair_rates {w : World} {a b : Deck} (ha : DeckFine w a) (hb : DeckFine w b) : RatesAt (w.alloc (.cells #[.slice a.ra a.rn a.rc, .slice b.ra b.rn b.rc] 26)) w.heap.size 2 [a, b] := by
  have hz := Blk.new w [.slice a.ra a.rn a.rc, .slice b.ra b.rn b.rc] 26
  have hA : Below w.heap.size w (w.alloc (.cells #[.slice a.ra a.rn a.rc, .slice b.ra b.rn b.rc] 26)) := ext_alloc (Below.refl _ _)
  exact ⟨rfl, by decide, hz.lt, fun i hi => by
    match i, hi with
    | 0, _ => exact ⟨hz.cell 0 rfl, ha.row.below hA⟩
    | 1, _ => exact ⟨hz.cell 1 rfl, hb.row.below hA⟩⟩
theorem dec_once (K : List (List UInt8)) (s : List UInt8) : decV (onceL K) s = leastV K s := (dec_is _ _).trans (leastV_congr (mem_once K) s)
theorem bl_ddg0 (e : Operand → Value) (he : ∀ v, e (.const v) = v) (o : Oper) (w : World) (i0 : Nat) (i1 : Nat) (a0 : Option Addr) (n0 : Nat) (m0 : Nat) (a1 : Option Addr) (n1 : Nat) (m1 : Nat) (ho : o.op = .buildSlice 127 2 #[(0, .tmp i0), (1, .tmp i1)]) (h0 : e (.tmp i0) = .slice a0 n0 m0) (h1 : e (.tmp i1) = .slice a1 n1 m1) :
   (execOp e o).run Tryz.prog w = .ok (.value (.slice (some ⟨w.heap.size, 0, none⟩) 2 2)) (w.alloc (.cells #[.slice a0 n0 m0, .slice a1 n1 m1] 26)) := by
  unfold execOp
  rw [ho]
  simp only [List.map_toArray, List.map_cons, List.map_nil, h0, h1]
  kernel_rfl
theorem bl_ddg1 (e : Operand → Value) (he : ∀ v, e (.const v) = v) (o : Oper) (w : World) (i0 : Nat) (p0 : ByteArray) (ho : o.op = .buildSlice 38 1 #[(0, .tmp i0)]) (h0 : e (.tmp i0) = .string p0) :
   (execOp e o).run Tryz.prog w = .ok (.value (.slice (some ⟨w.heap.size, 0, none⟩) 1 1)) (w.alloc (.cells #[.string p0] 9)) := by
  unfold execOp
  rw [ho]
  simp only [List.map_toArray, List.map_cons, List.map_nil, h0]
  kernel_rfl
set_option maxRecDepth 100000 in
set_option maxHeartbeats 8000000 in
theorem differDecks_any (w : World) (a b : Deck) (ha : DeckFine w a) (hb : DeckFine w b) (hE : deckErr a = 0 ∧ deckErr b = 0) : Calls Tryz.prog 14 #[.agg a.cells.toArray, .agg b.cells.toArray] w (ListPost (diffV a.rates b.rates) w) := by
  obtain ⟨i0, hi, hz0, hz1, hz2⟩ := info_parts Tryz.infoStr
  have HP2 := Lib.hid (preTwo ha hb)
  have HPA : Hid (∀ W, Below w.heap.size w W → RatesAt (W.alloc (.cells #[.slice a.ra a.rn a.rc, .slice b.ra b.rn b.rc] 26)) W.heap.size 2 [a, b]) := fun W hW => pair_rates (ha.below hW) (hb.below hW)
  have HPT : Hid (prefK [a, b] = a.rates.map (·.p) ++ b.rates.map (·.p)) := pre_two a b
  have hgd1 := deck_good (Nat.le_trans (by rw [← ha.row.len]; exact ha.row.few) (by decide)) hE.1
  have hgd2 := deck_good (Nat.le_trans (by rw [← hb.row.len]; exact hb.row.few) (by decide)) hE.2
  have HSA2 := Lib.hid hgd1.sorted
  have HSB2 := Lib.hid hgd2.sorted
  have HRA := Lib.hid ha.row
  have HRB := Lib.hid hb.row
  clear ha hb hE hgd1 hgd2
  obtain ⟨gf, gs, gl, gp, ga, gn, gc, grs⟩ := a
  obtain ⟨kf, ks, kl, kp, ka, kn, kc, krs⟩ := b
  have HPA2 : Hid (∀ W, Below w.heap.size w W → RatesAt (W.alloc (.cells #[.slice ga gn gc, .slice ka kn kc] 26)) W.heap.size 2 [(⟨gf, gs, gl, gp, ga, gn, gc, grs⟩ : Deck), (⟨kf, ks, kl, kp, ka, kn, kc, krs⟩ : Deck)]) := HPA.out
  show Calls Tryz.prog 14 #[.agg #[.int .i64 gf, .int .i64 gs, .int .i64 gl, .int .i64 gp, .slice ga gn gc], .agg #[.int .i64 kf, .int .i64 ks, .int .i64 kl, .int .i64 kp, .slice ka kn kc]] w _
  simp only at HPT HSA2 HSB2 HRA HRB HP2 ⊢
  clear HPA
  have HDV : Hid (diffV grs krs = (onceL (grs.map (·.p) ++ krs.map (·.p))).filter (diffS (grs.map (·.p) ++ krs.map (·.p)) grs krs)) := rfl
  generalize diffV grs krs = R at HDV ⊢
  generalize grs.map (·.p) ++ krs.map (·.p) = K at HPT HP2 HDV
  have HX : Hid (Blk ((w.alloc (.cells #[.int .i64 gf, .int .i64 gs, .int .i64 gl, .int .i64 gp, .slice ga gn gc] 28)).alloc (.cells #[.int .i64 kf, .int .i64 ks, .int .i64 kl, .int .i64 kp, .slice ka kn kc] 28)) w.heap.size [.int .i64 gf, .int .i64 gs, .int .i64 gl, .int .i64 gp, .slice ga gn gc] 28) := (Blk.new w _ _).alloc _
  have HY : Hid (Blk ((w.alloc (.cells #[.int .i64 gf, .int .i64 gs, .int .i64 gl, .int .i64 gp, .slice ga gn gc] 28)).alloc (.cells #[.int .i64 kf, .int .i64 ks, .int .i64 kl, .int .i64 kp, .slice ka kn kc] 28)) (w.heap.size + 1) [.int .i64 kf, .int .i64 ks, .int .i64 kl, .int .i64 kp, .slice ka kn kc] 28) := by
    have := Blk.new (w.alloc (.cells #[.int .i64 gf, .int .i64 gs, .int .i64 gl, .int .i64 gp, .slice ga gn gc] 28)) [.int .i64 kf, .int .i64 ks, .int .i64 kl, .int .i64 kp, .slice ka kn kc] 28
    rw [show (w.alloc (.cells #[.int .i64 gf, .int .i64 gs, .int .i64 gl, .int .i64 gp, .slice ga gn gc] 28)).heap.size = w.heap.size + 1 by simp] at this
    exact this
  have HA : Hid (Below w.heap.size w ((w.alloc (.cells #[.int .i64 gf, .int .i64 gs, .int .i64 gl, .int .i64 gp, .slice ga gn gc] 28)).alloc (.cells #[.int .i64 kf, .int .i64 ks, .int .i64 kl, .int .i64 kp, .slice ka kn kc] 28))) := ext_alloc (ext_alloc (Below.refl _ _))
  go_enter Tryz.func14, Tryz.ntmps14
  as_aux_lemma =>
    go_upto_region 1 with (fail)
    generalize World.alloc (World.alloc w _) _ = w1 at HX HY HA ⊢
    obtain ⟨Y, hY⟩ : ∃ Y, Y = w.heap.size + 1 := ⟨_, rfl⟩
    obtain ⟨X, hX⟩ : ∃ X, X = w.heap.size := ⟨_, rfl⟩
    rw [← hY] at HY
    rw [← hX] at HX
    simp only [← hY]
    simp only [← hX]
    clear hX hY
    have x0 := HX.out.cell 0 rfl
    have x1 := HX.out.cell 1 rfl
    have x2 := HX.out.cell 2 rfl
    have x3 := HX.out.cell 3 rfl
    have x4 := HX.out.cell 4 rfl
    have y0 := HY.out.cell 0 rfl
    have y1 := HY.out.cell 1 rfl
    have y2 := HY.out.cell 2 rfl
    have y3 := HY.out.cell 3 rfl
    have y4 := HY.out.cell 4 rfl
    have hA : Below w1.heap.size w1 (w1.alloc (.cells #[.slice ga gn gc, .slice ka kn kc] 26)) := ext_alloc (Below.refl _ _)
    have HX3 := Lib.hid (HX.out.below hA)
    have HY3 := Lib.hid (HY.out.below hA)
    have HB3 := Lib.hid (ext_trans HA.out hA)
    have HPR := Lib.hid (prefixesR_any _ _ 2 2 _ (HPA2.out w1 HA.out))
    rw [HPT.out] at HPR
    clear hA HX HY HA HPA2 HPT
    as_aux_lemma =>
      go_wp2_with (first | (refine wpList_val rfl (bl_ddg0 _ (fun _ => rfl) _ _ 14 16 ga gn gc ka kn kc rfl rfl rfl) ?_))
      generalize w1.alloc (.cells #[.slice ga gn gc, .slice ka kn kc] 26) = w3 at HX3 HY3 HB3 HPR ⊢
      generalize w1.heap.size = V2 at HPR ⊢
      clear x0 x1 x2 x3 x4 y0 y1 y2 y3 y4
      refine HPR.out.mono ?_
      rintro e w5 ⟨v5, rfl, ho5, hb5⟩
      obtain ⟨va, vc, rfl⟩ := own_shape ho5
      have HO5 := Lib.hid ho5
      have HX5 := Lib.hid (HX3.out.below hb5)
      have HY5 := Lib.hid (HY3.out.below hb5)
      have HB5 := Lib.hid (ext_trans HB3.out hb5)
      have hkl := once_len K
      have hk2 := HP2.out.few
      generalize w3.heap.size = W4 at HO5
      clear ho5 hb5 HPR HX3 HY3 HB3
      as_aux_lemma =>
        go_wp2_with fail
        go_loopw [5, 21] (fun vo it wr => ∃ (i : Nat) (os : List (List UInt8)), i ≤ (onceL K).length ∧ it = .int .i64 i ∧ Hid (os = ((onceL K).take i).filter (diffS K grs krs)) ∧ Hid (wr.ownsRow w5.heap.size 9 1 vo os.length (os.map encS)) ∧ Hid (Below w5.heap.size w5 wr)) (fun _ it _ => (onceL K).length - (intOf it).toNat)
        case atStart => exact ⟨0, [], Nat.zero_le _, rfl, rfl, World.ownsRow_nil _ _ _ _, Below.refl _ _⟩
        case round =>
          obtain ⟨i, os, hin, rfl, HU, HO, HB⟩ := hrel
          obtain ⟨vo, rfl⟩ : ∃ x : Value, x = u5 := ⟨_, rfl⟩
          have hol : os.length ≤ 200 := by
            have h9 := filter_take_lenG (diffS K grs krs) (onceL K) i
            rw [← HU.out] at h9
            omega
          by_cases hlt : i < (onceL K).length
          case neg =>
            have hii : i = (onceL K).length := by omega
            have HE : Hid (ListPost R w (.returned vo) wr) := by
              have e : os = R := by rw [HDV.out, HU.out, hii, List.take_length]
              rw [← e]
              exact ⟨vo, rfl, own_le HO.out HB5.out.size, ext_trans HB5.out HB.out⟩
            have hnn : ¬ (i : Int) < ((onceL K).length : Int) := by omega
            clear HU HO HB HDV HX5 HY5 HO5 HB5
            as_aux_lemma =>
              go_wp2_with fail
              go_ret
              exact HE.out
          have hlti : (i : Int) < ((onceL K).length : Int) := by omega
          have HOL := Lib.hid (own_keep HO5.out HB.out)
          obtain ⟨g, rfl, hg0, hg1⟩ := own_pos HOL.out (by omega)
          have c0 : wr.cell? ⟨g, i, none⟩ = some (.string ⟨((onceL K).getD i []).toArray⟩) := by
            have h9 := HOL.out.cellAt i (by omega)
            rw [h9]
            simp [encS, List.getD_eq_getElem?_getD, hlt]
          have hsl := HP2.out.at_ i
          have HST : Hid (((onceL K).take (i + 1)).filter (diffS K grs krs) = ((onceL K).take i).filter (diffS K grs krs) ++ (if diffS K grs krs ((onceL K).getD i []) = true then [(onceL K).getD i []] else [])) := filter_stepG _ _ [] i hlt
          generalize (onceL K).getD i [] = s at c0 hsl HST
          have HDS : Hid (diffS K grs krs s = ((leastV K s).isSome && diffO (rateOf grs s s.length).isSome (rateOf krs s s.length).isSome ((rateOf grs s s.length).getD noRate) ((rateOf krs s s.length).getD noRate))) := rfl
          have HR1 : Hid (∀ W, Below w5.heap.size w5 W → Calls Tryz.prog 53 #[.slice ga gn gc, .string ⟨s.toArray⟩] W (RatePost (rateOf grs s s.length) W)) := fun W hW => by
            rw [← ref_len HSA2.out s]
            exact rateFor_any W ga gn gc grs s (HRA.out.below (ext_trans HB5.out hW)) (by omega)
          have HR2 : Hid (∀ W, Below w5.heap.size w5 W → Calls Tryz.prog 53 #[.slice ka kn kc, .string ⟨s.toArray⟩] W (RatePost (rateOf krs s s.length) W)) := fun W hW => by
            rw [← ref_len HSB2.out s]
            exact rateFor_any W ka kn kc krs s (HRB.out.below (ext_trans HB5.out hW)) (by omega)
          have HDE : Hid (∀ W, Below w5.heap.size w5 W → Calls Tryz.prog 54 #[.string ⟨s.toArray⟩, .slice (some ⟨g, 0, none⟩) (onceL K).length vc] W (DecPost (leastV K s) W)) := fun W hW => by
            rw [← dec_once K s]
            exact decided_any W W4 (onceL K).length _ (onceL K) (own_keep HO5.out hW) (by omega) s hsl
          generalize leastV K s = o at HDS HDE
          generalize rateOf grs s s.length = o1 at HDS HR1
          generalize rateOf krs s s.length = o2 at HDS HR2
          have HX6 := Lib.hid (HX5.out.below HB.out)
          have HY6 := Lib.hid (HY5.out.below HB.out)
          have x0 := HX6.out.cell 0 rfl
          have x1 := HX6.out.cell 1 rfl
          have x2 := HX6.out.cell 2 rfl
          have x3 := HX6.out.cell 3 rfl
          have x4 := HX6.out.cell 4 rfl
          clear HOL
          as_aux_lemma =>
            go_wp2_with fail
            refine (HR1.out wr HB.out).mono ?_
            intro e w7 hrp
            obtain ⟨hb7, rfl⟩ := ratePostD hrp
            generalize o1.getD noRate = r1 at HDS
            generalize o1.isSome = f1 at HDS
            obtain ⟨r1p, r1q, r1l⟩ := r1
            clear hrp HR1 x0 x1 x2 x3 x4 c0
            have HY7 := Lib.hid (HY6.out.below hb7)
            have HB7 := Lib.hid (ext_trans HB.out hb7)
            have HO7 := Lib.hid (own_keep HO.out hb7)
            clear hb7 HB HO HX6 HY6
            simp only
            have hA : Below w7.heap.size w7 (w7.alloc (.cells #[.string ⟨r1p.toArray⟩, .int .i64 r1q, .bool r1l] 51)) := ext_alloc (Below.refl _ _)
            have HP8 : Hid (Blk (w7.alloc (.cells #[.string ⟨r1p.toArray⟩, .int .i64 r1q, .bool r1l] 51)) w7.heap.size [.string ⟨r1p.toArray⟩, .int .i64 r1q, .bool r1l] 51) := Blk.new w7 [.string ⟨r1p.toArray⟩, .int .i64 r1q, .bool r1l] 51
            have HY8 := Lib.hid (HY7.out.below hA)
            have HB8 := Lib.hid (ext_trans HB7.out hA)
            have HO8 := Lib.hid (own_keep HO7.out hA)
            clear hA HY7 HB7 HO7
            as_aux_lemma =>
              go_upto_region 7 with (fail)
              generalize (w7.alloc (.cells #[.string ⟨r1p.toArray⟩, .int .i64 r1q, .bool r1l] 51)) = w8 at HP8 HY8 HB8 HO8 ⊢
              generalize w7.heap.size = P at HP8 ⊢
              have y0 := HY8.out.cell 0 rfl
              have y1 := HY8.out.cell 1 rfl
              have y2 := HY8.out.cell 2 rfl
              have y3 := HY8.out.cell 3 rfl
              have y4 := HY8.out.cell 4 rfl
              as_aux_lemma =>
                go_wp2_with fail
                refine (HR2.out w8 HB8.out).mono ?_
                intro e w3 hrp
                obtain ⟨hb3, rfl⟩ := ratePostD hrp
                generalize o2.getD noRate = r2 at HDS
                generalize o2.isSome = f2 at HDS
                obtain ⟨r2p, r2q, r2l⟩ := r2
                clear hrp HR2 y0 y1 y2 y3 y4
                have HP3 := Lib.hid (HP8.out.below hb3)
                have HB3 := Lib.hid (ext_trans HB8.out hb3)
                have HO3 := Lib.hid (own_keep HO8.out hb3)
                clear hb3 HB8 HO8 HP8 HY8
                simp only
                have hA : Below w3.heap.size w3 (w3.alloc (.cells #[.string ⟨r2p.toArray⟩, .int .i64 r2q, .bool r2l] 51)) := ext_alloc (Below.refl _ _)
                have HQ4 : Hid (Blk (w3.alloc (.cells #[.string ⟨r2p.toArray⟩, .int .i64 r2q, .bool r2l] 51)) w3.heap.size [.string ⟨r2p.toArray⟩, .int .i64 r2q, .bool r2l] 51) := Blk.new w3 [.string ⟨r2p.toArray⟩, .int .i64 r2q, .bool r2l] 51
                have HP4 := Lib.hid (HP3.out.below hA)
                have HB4 := Lib.hid (ext_trans HB3.out hA)
                have HO4 := Lib.hid (own_keep HO3.out hA)
                clear hA HP3 HB3 HO3
                as_aux_lemma =>
                  go_upto_region 8 with (fail)
                  generalize (w3.alloc (.cells #[.string ⟨r2p.toArray⟩, .int .i64 r2q, .bool r2l] 51)) = w4 at HQ4 HP4 HB4 HO4 ⊢
                  generalize w3.heap.size = Q at HQ4 ⊢
                  as_aux_lemma =>
                    go_wp2_with fail
                    refine (HDE.out w4 HB4.out).mono ?_
                    rintro e w9 ⟨rfl, hb9⟩
                    have HP9 := Lib.hid (HP4.out.below hb9)
                    have HQ9 := Lib.hid (HQ4.out.below hb9)
                    have HB9 := Lib.hid (ext_trans HB4.out hb9)
                    have HO9 := Lib.hid (own_keep HO4.out hb9)
                    clear hb9 HP4 HQ4 HB4 HO4 HDE
                    have p1 := HP9.out.cell 1 rfl
                    have p2 := HP9.out.cell 2 rfl
                    have q1 := HQ9.out.cell 1 rfl
                    have q2 := HQ9.out.cell 2 rfl
                    clear HP9 HQ9
                    cases o with
                    | none =>
                      simp only [decS]
                      have hq : diffS K grs krs s = false := HDS.out
                      have HN : Hid (os = ((onceL K).take (i + 1)).filter (diffS K grs krs)) := by
                        show _ = _
                        rw [HST.out, HU.out, if_neg (by rw [hq]; decide), List.append_nil]
                      clear hq HDS HST HU
                      as_aux_lemma =>
                        go_wp2_with fail
                        go_roundw
                        case rel => exact ⟨i + 1, os, by omega, by go_num, HN.out, HO9.out, HB9.out⟩
                        case measure => simp [intOf]; omega
                    | some x =>
                      simp only [decS]
                      have HDS2 : Hid (diffS K grs krs s = diffO f1 f2 ⟨r1p, r1q, r1l⟩ ⟨r2p, r2q, r2l⟩) := HDS.out
                      clear HDS
                      have HDS := HDS2
                      clear HDS2
                      cases f1
                      case false =>
                        cases f2
                        case false =>
                          by_cases hqq : r1q = r2q
                          · subst hqq
                            cases r1l
                            case false =>
                              cases r2l
                              case false =>
                                have hq : diffS K grs krs s = false := by rw [HDS.out]; simp [diffO]
                                have HN : Hid (os = ((onceL K).take (i + 1)).filter (diffS K grs krs)) := by
                                  show _ = _
                                  rw [HST.out, HU.out, if_neg (by rw [hq]; decide), List.append_nil]
                                clear hq HDS HST HU
                                as_aux_lemma =>
                                  go_wp2_with fail
                                  go_roundw
                                  case rel => exact ⟨i + 1, os, by omega, by go_num, HN.out, HO9.out, HB9.out⟩
                                  case measure => simp [intOf]; omega
                              case true =>
                                have hq : diffS K grs krs s = true := by rw [HDS.out]; simp [diffO]
                                have HN : Hid (os ++ [s] = ((onceL K).take (i + 1)).filter (diffS K grs krs)) := by
                                  show _ = _
                                  rw [HST.out, HU.out, if_pos hq]
                                clear hq HDS HST HU
                                have hoz := HO9.out
                                obtain ⟨oa, oc, rfl⟩ := own_shape hoz
                                have hrow : w5.heap.size ≤ w9.heap.size := HB9.out.size
                                have HOA : Hid (World.ownsRow (w9.alloc (.cells #[.string ⟨s.toArray⟩] 9)) w5.heap.size 9 1 (.slice oa os.length oc) os.length (os.map encS)) := World.ownsRow.alloc hoz (.cells #[.string ⟨s.toArray⟩] 9)
                                have HNA : Hid (Blk (w9.alloc (.cells #[.string ⟨s.toArray⟩] 9)) w9.heap.size [.string ⟨s.toArray⟩] 9) := Blk.new w9 [.string ⟨s.toArray⟩] 9
                                have hvw : ∀ b, (Value.slice oa os.length oc).ownBlock = some b → w5.heap.size ≤ b := fun b e => (hoz.lt b e).1
                                clear hoz
                                as_aux_lemma =>
                                  go_wp2_with (first | (refine wpList_val rfl (bl_ddg1 _ (fun _ => rfl) _ _ 63 ⟨s.toArray⟩ rfl rfl) ?_) | (at_builtin; go_loud (refine wpList_append_own_at _ rfl (.tmp 62) (.tmp 64) 38 rfl w5.heap.size 9 i0 _ 1 16 Tryz.underlying38 hi hz0 hz1 hz2 rfl (by omega) (.slice oa os.length oc) os.length _ rfl HOA.out ⟨w9.heap.size, 0, none⟩ 1 1 [.string ⟨s.toArray⟩] rfl rfl (fun j u hj => by rw [add0]; exact HNA.out.cell j hj) (by simp [Value.oneCell']) (by simp only [maxLen]; omega) (by omega) (by simp; omega) ?_); intro v12 w12 hown12 hgr12 _ hat12; have HQ1 := Lib.hid hown12; have HQ2 := Lib.hid hgr12; clear hown12 hgr12 hat12 HOA HNA; refine Hid.out ?_))
                                  refine Lib.hid ?_
                                  have HO12 : Hid (w12.ownsRow w5.heap.size 9 1 v12 (os ++ [s]).length ((os ++ [s]).map encS)) := by
                                    show World.ownsRow _ _ _ _ _ _ _
                                    rw [List.map_append, List.length_append]
                                    exact HQ1.out
                                  have HB12 : Hid (Below w5.heap.size w5 w12) := HB9.out.trans (upto_grown HQ2.out hrow hvw)
                                  clear HQ1 HQ2 HO9 HB9
                                  as_aux_lemma =>
                                    go_wp2_with fail
                                    go_roundw
                                    case rel => exact ⟨i + 1, os ++ [s], by omega, by go_num, HN.out, HO12.out, HB12.out⟩
                                    case measure => simp [intOf]; omega
                            case true =>
                              cases r2l
                              case false =>
                                have hq : diffS K grs krs s = true := by rw [HDS.out]; simp [diffO]
                                have HN : Hid (os ++ [s] = ((onceL K).take (i + 1)).filter (diffS K grs krs)) := by
                                  show _ = _
                                  rw [HST.out, HU.out, if_pos hq]
                                clear hq HDS HST HU
                                have hoz := HO9.out
                                obtain ⟨oa, oc, rfl⟩ := own_shape hoz
                                have hrow : w5.heap.size ≤ w9.heap.size := HB9.out.size
                                have HOA : Hid (World.ownsRow (w9.alloc (.cells #[.string ⟨s.toArray⟩] 9)) w5.heap.size 9 1 (.slice oa os.length oc) os.length (os.map encS)) := World.ownsRow.alloc hoz (.cells #[.string ⟨s.toArray⟩] 9)
                                have HNA : Hid (Blk (w9.alloc (.cells #[.string ⟨s.toArray⟩] 9)) w9.heap.size [.string ⟨s.toArray⟩] 9) := Blk.new w9 [.string ⟨s.toArray⟩] 9
                                have hvw : ∀ b, (Value.slice oa os.length oc).ownBlock = some b → w5.heap.size ≤ b := fun b e => (hoz.lt b e).1
                                clear hoz
                                as_aux_lemma =>
                                  go_wp2_with (first | (refine wpList_val rfl (bl_ddg1 _ (fun _ => rfl) _ _ 63 ⟨s.toArray⟩ rfl rfl) ?_) | (at_builtin; go_loud (refine wpList_append_own_at _ rfl (.tmp 62) (.tmp 64) 38 rfl w5.heap.size 9 i0 _ 1 16 Tryz.underlying38 hi hz0 hz1 hz2 rfl (by omega) (.slice oa os.length oc) os.length _ rfl HOA.out ⟨w9.heap.size, 0, none⟩ 1 1 [.string ⟨s.toArray⟩] rfl rfl (fun j u hj => by rw [add0]; exact HNA.out.cell j hj) (by simp [Value.oneCell']) (by simp only [maxLen]; omega) (by omega) (by simp; omega) ?_); intro v12 w12 hown12 hgr12 _ hat12; have HQ1 := Lib.hid hown12; have HQ2 := Lib.hid hgr12; clear hown12 hgr12 hat12 HOA HNA; refine Hid.out ?_))
                                  refine Lib.hid ?_
                                  have HO12 : Hid (w12.ownsRow w5.heap.size 9 1 v12 (os ++ [s]).length ((os ++ [s]).map encS)) := by
                                    show World.ownsRow _ _ _ _ _ _ _
                                    rw [List.map_append, List.length_append]
                                    exact HQ1.out
                                  have HB12 : Hid (Below w5.heap.size w5 w12) := HB9.out.trans (upto_grown HQ2.out hrow hvw)
                                  clear HQ1 HQ2 HO9 HB9
                                  as_aux_lemma =>
                                    go_wp2_with fail
                                    go_roundw
                                    case rel => exact ⟨i + 1, os ++ [s], by omega, by go_num, HN.out, HO12.out, HB12.out⟩
                                    case measure => simp [intOf]; omega
                              case true =>
                                have hq : diffS K grs krs s = false := by rw [HDS.out]; simp [diffO]
                                have HN : Hid (os = ((onceL K).take (i + 1)).filter (diffS K grs krs)) := by
                                  show _ = _
                                  rw [HST.out, HU.out, if_neg (by rw [hq]; decide), List.append_nil]
                                clear hq HDS HST HU
                                as_aux_lemma =>
                                  go_wp2_with fail
                                  go_roundw
                                  case rel => exact ⟨i + 1, os, by omega, by go_num, HN.out, HO9.out, HB9.out⟩
                                  case measure => simp [intOf]; omega
                          have hqb : (r1q == r2q) = false := beq_eq_false_iff_ne.2 hqq
                          have hq : diffS K grs krs s = true := by rw [HDS.out]; unfold diffO; simp [hqq]
                          have HN : Hid (os ++ [s] = ((onceL K).take (i + 1)).filter (diffS K grs krs)) := by
                            show _ = _
                            rw [HST.out, HU.out, if_pos hq]
                          clear hq HDS HST HU
                          have hoz := HO9.out
                          obtain ⟨oa, oc, rfl⟩ := own_shape hoz
                          have hrow : w5.heap.size ≤ w9.heap.size := HB9.out.size
                          have HOA : Hid (World.ownsRow (w9.alloc (.cells #[.string ⟨s.toArray⟩] 9)) w5.heap.size 9 1 (.slice oa os.length oc) os.length (os.map encS)) := World.ownsRow.alloc hoz (.cells #[.string ⟨s.toArray⟩] 9)
                          have HNA : Hid (Blk (w9.alloc (.cells #[.string ⟨s.toArray⟩] 9)) w9.heap.size [.string ⟨s.toArray⟩] 9) := Blk.new w9 [.string ⟨s.toArray⟩] 9
                          have hvw : ∀ b, (Value.slice oa os.length oc).ownBlock = some b → w5.heap.size ≤ b := fun b e => (hoz.lt b e).1
                          clear hoz
                          as_aux_lemma =>
                            go_wp2_with (first | (refine wpList_val rfl (bl_ddg1 _ (fun _ => rfl) _ _ 63 ⟨s.toArray⟩ rfl rfl) ?_) | (at_builtin; go_loud (refine wpList_append_own_at _ rfl (.tmp 62) (.tmp 64) 38 rfl w5.heap.size 9 i0 _ 1 16 Tryz.underlying38 hi hz0 hz1 hz2 rfl (by omega) (.slice oa os.length oc) os.length _ rfl HOA.out ⟨w9.heap.size, 0, none⟩ 1 1 [.string ⟨s.toArray⟩] rfl rfl (fun j u hj => by rw [add0]; exact HNA.out.cell j hj) (by simp [Value.oneCell']) (by simp only [maxLen]; omega) (by omega) (by simp; omega) ?_); intro v12 w12 hown12 hgr12 _ hat12; have HQ1 := Lib.hid hown12; have HQ2 := Lib.hid hgr12; clear hown12 hgr12 hat12 HOA HNA; refine Hid.out ?_))
                            refine Lib.hid ?_
                            have HO12 : Hid (w12.ownsRow w5.heap.size 9 1 v12 (os ++ [s]).length ((os ++ [s]).map encS)) := by
                              show World.ownsRow _ _ _ _ _ _ _
                              rw [List.map_append, List.length_append]
                              exact HQ1.out
                            have HB12 : Hid (Below w5.heap.size w5 w12) := HB9.out.trans (upto_grown HQ2.out hrow hvw)
                            clear HQ1 HQ2 HO9 HB9
                            as_aux_lemma =>
                              go_wp2_with fail
                              go_roundw
                              case rel => exact ⟨i + 1, os ++ [s], by omega, by go_num, HN.out, HO12.out, HB12.out⟩
                              case measure => simp [intOf]; omega
                        case true =>
                          have hq : diffS K grs krs s = true := by rw [HDS.out]; rfl
                          have HN : Hid (os ++ [s] = ((onceL K).take (i + 1)).filter (diffS K grs krs)) := by
                            show _ = _
                            rw [HST.out, HU.out, if_pos hq]
                          clear hq HDS HST HU
                          have hoz := HO9.out
                          obtain ⟨oa, oc, rfl⟩ := own_shape hoz
                          have hrow : w5.heap.size ≤ w9.heap.size := HB9.out.size
                          have HOA : Hid (World.ownsRow (w9.alloc (.cells #[.string ⟨s.toArray⟩] 9)) w5.heap.size 9 1 (.slice oa os.length oc) os.length (os.map encS)) := World.ownsRow.alloc hoz (.cells #[.string ⟨s.toArray⟩] 9)
                          have HNA : Hid (Blk (w9.alloc (.cells #[.string ⟨s.toArray⟩] 9)) w9.heap.size [.string ⟨s.toArray⟩] 9) := Blk.new w9 [.string ⟨s.toArray⟩] 9
                          have hvw : ∀ b, (Value.slice oa os.length oc).ownBlock = some b → w5.heap.size ≤ b := fun b e => (hoz.lt b e).1
                          clear hoz
                          as_aux_lemma =>
                            go_wp2_with (first | (refine wpList_val rfl (bl_ddg1 _ (fun _ => rfl) _ _ 63 ⟨s.toArray⟩ rfl rfl) ?_) | (at_builtin; go_loud (refine wpList_append_own_at _ rfl (.tmp 62) (.tmp 64) 38 rfl w5.heap.size 9 i0 _ 1 16 Tryz.underlying38 hi hz0 hz1 hz2 rfl (by omega) (.slice oa os.length oc) os.length _ rfl HOA.out ⟨w9.heap.size, 0, none⟩ 1 1 [.string ⟨s.toArray⟩] rfl rfl (fun j u hj => by rw [add0]; exact HNA.out.cell j hj) (by simp [Value.oneCell']) (by simp only [maxLen]; omega) (by omega) (by simp; omega) ?_); intro v12 w12 hown12 hgr12 _ hat12; have HQ1 := Lib.hid hown12; have HQ2 := Lib.hid hgr12; clear hown12 hgr12 hat12 HOA HNA; refine Hid.out ?_))
                            refine Lib.hid ?_
                            have HO12 : Hid (w12.ownsRow w5.heap.size 9 1 v12 (os ++ [s]).length ((os ++ [s]).map encS)) := by
                              show World.ownsRow _ _ _ _ _ _ _
                              rw [List.map_append, List.length_append]
                              exact HQ1.out
                            have HB12 : Hid (Below w5.heap.size w5 w12) := HB9.out.trans (upto_grown HQ2.out hrow hvw)
                            clear HQ1 HQ2 HO9 HB9
                            as_aux_lemma =>
                              go_wp2_with fail
                              go_roundw
                              case rel => exact ⟨i + 1, os ++ [s], by omega, by go_num, HN.out, HO12.out, HB12.out⟩
                              case measure => simp [intOf]; omega
                      case true =>
                        cases f2
                        case false =>
                          have hq : diffS K grs krs s = true := by rw [HDS.out]; rfl
                          have HN : Hid (os ++ [s] = ((onceL K).take (i + 1)).filter (diffS K grs krs)) := by
                            show _ = _
                            rw [HST.out, HU.out, if_pos hq]
                          clear hq HDS HST HU
                          have hoz := HO9.out
                          obtain ⟨oa, oc, rfl⟩ := own_shape hoz
                          have hrow : w5.heap.size ≤ w9.heap.size := HB9.out.size
                          have HOA : Hid (World.ownsRow (w9.alloc (.cells #[.string ⟨s.toArray⟩] 9)) w5.heap.size 9 1 (.slice oa os.length oc) os.length (os.map encS)) := World.ownsRow.alloc hoz (.cells #[.string ⟨s.toArray⟩] 9)
                          have HNA : Hid (Blk (w9.alloc (.cells #[.string ⟨s.toArray⟩] 9)) w9.heap.size [.string ⟨s.toArray⟩] 9) := Blk.new w9 [.string ⟨s.toArray⟩] 9
                          have hvw : ∀ b, (Value.slice oa os.length oc).ownBlock = some b → w5.heap.size ≤ b := fun b e => (hoz.lt b e).1
                          clear hoz
                          as_aux_lemma =>
                            go_wp2_with (first | (refine wpList_val rfl (bl_ddg1 _ (fun _ => rfl) _ _ 63 ⟨s.toArray⟩ rfl rfl) ?_) | (at_builtin; go_loud (refine wpList_append_own_at _ rfl (.tmp 62) (.tmp 64) 38 rfl w5.heap.size 9 i0 _ 1 16 Tryz.underlying38 hi hz0 hz1 hz2 rfl (by omega) (.slice oa os.length oc) os.length _ rfl HOA.out ⟨w9.heap.size, 0, none⟩ 1 1 [.string ⟨s.toArray⟩] rfl rfl (fun j u hj => by rw [add0]; exact HNA.out.cell j hj) (by simp [Value.oneCell']) (by simp only [maxLen]; omega) (by omega) (by simp; omega) ?_); intro v12 w12 hown12 hgr12 _ hat12; have HQ1 := Lib.hid hown12; have HQ2 := Lib.hid hgr12; clear hown12 hgr12 hat12 HOA HNA; refine Hid.out ?_))
                            refine Lib.hid ?_
                            have HO12 : Hid (w12.ownsRow w5.heap.size 9 1 v12 (os ++ [s]).length ((os ++ [s]).map encS)) := by
                              show World.ownsRow _ _ _ _ _ _ _
                              rw [List.map_append, List.length_append]
                              exact HQ1.out
                            have HB12 : Hid (Below w5.heap.size w5 w12) := HB9.out.trans (upto_grown HQ2.out hrow hvw)
                            clear HQ1 HQ2 HO9 HB9
                            as_aux_lemma =>
                              go_wp2_with fail
                              go_roundw
                              case rel => exact ⟨i + 1, os ++ [s], by omega, by go_num, HN.out, HO12.out, HB12.out⟩
                              case measure => simp [intOf]; omega
                        case true =>
                          by_cases hqq : r1q = r2q
                          · subst hqq
                            cases r1l
                            case false =>
                              cases r2l
                              case false =>
                                have hq : diffS K grs krs s = false := by rw [HDS.out]; simp [diffO]
                                have HN : Hid (os = ((onceL K).take (i + 1)).filter (diffS K grs krs)) := by
                                  show _ = _
                                  rw [HST.out, HU.out, if_neg (by rw [hq]; decide), List.append_nil]
                                clear hq HDS HST HU
                                as_aux_lemma =>
                                  go_wp2_with fail
                                  go_roundw
                                  case rel => exact ⟨i + 1, os, by omega, by go_num, HN.out, HO9.out, HB9.out⟩
                                  case measure => simp [intOf]; omega
                              case true =>
                                have hq : diffS K grs krs s = true := by rw [HDS.out]; simp [diffO]
                                have HN : Hid (os ++ [s] = ((onceL K).take (i + 1)).filter (diffS K grs krs)) := by
                                  show _ = _
                                  rw [HST.out, HU.out, if_pos hq]
                                clear hq HDS HST HU
                                have hoz := HO9.out
                                obtain ⟨oa, oc, rfl⟩ := own_shape hoz
                                have hrow : w5.heap.size ≤ w9.heap.size := HB9.out.size
                                have HOA : Hid (World.ownsRow (w9.alloc (.cells #[.string ⟨s.toArray⟩] 9)) w5.heap.size 9 1 (.slice oa os.length oc) os.length (os.map encS)) := World.ownsRow.alloc hoz (.cells #[.string ⟨s.toArray⟩] 9)
                                have HNA : Hid (Blk (w9.alloc (.cells #[.string ⟨s.toArray⟩] 9)) w9.heap.size [.string ⟨s.toArray⟩] 9) := Blk.new w9 [.string ⟨s.toArray⟩] 9
                                have hvw : ∀ b, (Value.slice oa os.length oc).ownBlock = some b → w5.heap.size ≤ b := fun b e => (hoz.lt b e).1
                                clear hoz
                                as_aux_lemma =>
                                  go_wp2_with (first | (refine wpList_val rfl (bl_ddg1 _ (fun _ => rfl) _ _ 63 ⟨s.toArray⟩ rfl rfl) ?_) | (at_builtin; go_loud (refine wpList_append_own_at _ rfl (.tmp 62) (.tmp 64) 38 rfl w5.heap.size 9 i0 _ 1 16 Tryz.underlying38 hi hz0 hz1 hz2 rfl (by omega) (.slice oa os.length oc) os.length _ rfl HOA.out ⟨w9.heap.size, 0, none⟩ 1 1 [.string ⟨s.toArray⟩] rfl rfl (fun j u hj => by rw [add0]; exact HNA.out.cell j hj) (by simp [Value.oneCell']) (by simp only [maxLen]; omega) (by omega) (by simp; omega) ?_); intro v12 w12 hown12 hgr12 _ hat12; have HQ1 := Lib.hid hown12; have HQ2 := Lib.hid hgr12; clear hown12 hgr12 hat12 HOA HNA; refine Hid.out ?_))
                                  refine Lib.hid ?_
                                  have HO12 : Hid (w12.ownsRow w5.heap.size 9 1 v12 (os ++ [s]).length ((os ++ [s]).map encS)) := by
                                    show World.ownsRow _ _ _ _ _ _ _
                                    rw [List.map_append, List.length_append]
                                    exact HQ1.out
                                  have HB12 : Hid (Below w5.heap.size w5 w12) := HB9.out.trans (upto_grown HQ2.out hrow hvw)
                                  clear HQ1 HQ2 HO9 HB9
                                  as_aux_lemma =>
                                    go_wp2_with fail
                                    go_roundw
                                    case rel => exact ⟨i + 1, os ++ [s], by omega, by go_num, HN.out, HO12.out, HB12.out⟩
                                    case measure => simp [intOf]; omega
                            case true =>
                              cases r2l
                              case false =>
                                have hq : diffS K grs krs s = true := by rw [HDS.out]; simp [diffO]
                                have HN : Hid (os ++ [s] = ((onceL K).take (i + 1)).filter (diffS K grs krs)) := by
                                  show _ = _
                                  rw [HST.out, HU.out, if_pos hq]
                                clear hq HDS HST HU
                                have hoz := HO9.out
                                obtain ⟨oa, oc, rfl⟩ := own_shape hoz
                                have hrow : w5.heap.size ≤ w9.heap.size := HB9.out.size
                                have HOA : Hid (World.ownsRow (w9.alloc (.cells #[.string ⟨s.toArray⟩] 9)) w5.heap.size 9 1 (.slice oa os.length oc) os.length (os.map encS)) := World.ownsRow.alloc hoz (.cells #[.string ⟨s.toArray⟩] 9)
                                have HNA : Hid (Blk (w9.alloc (.cells #[.string ⟨s.toArray⟩] 9)) w9.heap.size [.string ⟨s.toArray⟩] 9) := Blk.new w9 [.string ⟨s.toArray⟩] 9
                                have hvw : ∀ b, (Value.slice oa os.length oc).ownBlock = some b → w5.heap.size ≤ b := fun b e => (hoz.lt b e).1
                                clear hoz
                                as_aux_lemma =>
                                  go_wp2_with (first | (refine wpList_val rfl (bl_ddg1 _ (fun _ => rfl) _ _ 63 ⟨s.toArray⟩ rfl rfl) ?_) | (at_builtin; go_loud (refine wpList_append_own_at _ rfl (.tmp 62) (.tmp 64) 38 rfl w5.heap.size 9 i0 _ 1 16 Tryz.underlying38 hi hz0 hz1 hz2 rfl (by omega) (.slice oa os.length oc) os.length _ rfl HOA.out ⟨w9.heap.size, 0, none⟩ 1 1 [.string ⟨s.toArray⟩] rfl rfl (fun j u hj => by rw [add0]; exact HNA.out.cell j hj) (by simp [Value.oneCell']) (by simp only [maxLen]; omega) (by omega) (by simp; omega) ?_); intro v12 w12 hown12 hgr12 _ hat12; have HQ1 := Lib.hid hown12; have HQ2 := Lib.hid hgr12; clear hown12 hgr12 hat12 HOA HNA; refine Hid.out ?_))
                                  refine Lib.hid ?_
                                  have HO12 : Hid (w12.ownsRow w5.heap.size 9 1 v12 (os ++ [s]).length ((os ++ [s]).map encS)) := by
                                    show World.ownsRow _ _ _ _ _ _ _
                                    rw [List.map_append, List.length_append]
                                    exact HQ1.out
                                  have HB12 : Hid (Below w5.heap.size w5 w12) := HB9.out.trans (upto_grown HQ2.out hrow hvw)
                                  clear HQ1 HQ2 HO9 HB9
                                  as_aux_lemma =>
                                    go_wp2_with fail
                                    go_roundw
                                    case rel => exact ⟨i + 1, os ++ [s], by omega, by go_num, HN.out, HO12.out, HB12.out⟩
                                    case measure => simp [intOf]; omega
                              case true =>
                                have hq : diffS K grs krs s = false := by rw [HDS.out]; simp [diffO]
                                have HN : Hid (os = ((onceL K).take (i + 1)).filter (diffS K grs krs)) := by
                                  show _ = _
                                  rw [HST.out, HU.out, if_neg (by rw [hq]; decide), List.append_nil]
                                clear hq HDS HST HU
                                as_aux_lemma =>
                                  go_wp2_with fail
                                  go_roundw
                                  case rel => exact ⟨i + 1, os, by omega, by go_num, HN.out, HO9.out, HB9.out⟩
                                  case measure => simp [intOf]; omega
                          have hqb : (r1q == r2q) = false := beq_eq_false_iff_ne.2 hqq
                          have hq : diffS K grs krs s = true := by rw [HDS.out]; unfold diffO; simp [hqq]
                          have HN : Hid (os ++ [s] = ((onceL K).take (i + 1)).filter (diffS K grs krs)) := by
                            show _ = _
                            rw [HST.out, HU.out, if_pos hq]
                          clear hq HDS HST HU
                          have hoz := HO9.out
                          obtain ⟨oa, oc, rfl⟩ := own_shape hoz
                          have hrow : w5.heap.size ≤ w9.heap.size := HB9.out.size
                          have HOA : Hid (World.ownsRow (w9.alloc (.cells #[.string ⟨s.toArray⟩] 9)) w5.heap.size 9 1 (.slice oa os.length oc) os.length (os.map encS)) := World.ownsRow.alloc hoz (.cells #[.string ⟨s.toArray⟩] 9)
                          have HNA : Hid (Blk (w9.alloc (.cells #[.string ⟨s.toArray⟩] 9)) w9.heap.size [.string ⟨s.toArray⟩] 9) := Blk.new w9 [.string ⟨s.toArray⟩] 9
                          have hvw : ∀ b, (Value.slice oa os.length oc).ownBlock = some b → w5.heap.size ≤ b := fun b e => (hoz.lt b e).1
                          clear hoz
                          as_aux_lemma =>
                            go_wp2_with (first | (refine wpList_val rfl (bl_ddg1 _ (fun _ => rfl) _ _ 63 ⟨s.toArray⟩ rfl rfl) ?_) | (at_builtin; go_loud (refine wpList_append_own_at _ rfl (.tmp 62) (.tmp 64) 38 rfl w5.heap.size 9 i0 _ 1 16 Tryz.underlying38 hi hz0 hz1 hz2 rfl (by omega) (.slice oa os.length oc) os.length _ rfl HOA.out ⟨w9.heap.size, 0, none⟩ 1 1 [.string ⟨s.toArray⟩] rfl rfl (fun j u hj => by rw [add0]; exact HNA.out.cell j hj) (by simp [Value.oneCell']) (by simp only [maxLen]; omega) (by omega) (by simp; omega) ?_); intro v12 w12 hown12 hgr12 _ hat12; have HQ1 := Lib.hid hown12; have HQ2 := Lib.hid hgr12; clear hown12 hgr12 hat12 HOA HNA; refine Hid.out ?_))
                            refine Lib.hid ?_
                            have HO12 : Hid (w12.ownsRow w5.heap.size 9 1 v12 (os ++ [s]).length ((os ++ [s]).map encS)) := by
                              show World.ownsRow _ _ _ _ _ _ _
                              rw [List.map_append, List.length_append]
                              exact HQ1.out
                            have HB12 : Hid (Below w5.heap.size w5 w12) := HB9.out.trans (upto_grown HQ2.out hrow hvw)
                            clear HQ1 HQ2 HO9 HB9
                            as_aux_lemma =>
                              go_wp2_with fail
                              go_roundw
                              case rel => exact ⟨i + 1, os ++ [s], by omega, by go_num, HN.out, HO12.out, HB12.out⟩
                              case measure => simp [intOf]; omega
end Go.Proofs.YtacekbbndamkmaaGreatDoor
