/- What is proved here: lemmas and contracts for the statement, put together out of smaller texts (DkmCh, CarrPf, DkmCn, PortLaw, DkmBm). No condition beyond those stated. -/
import Derived.Test.YtacekbbndamkmaaGreatDoorDcPkG
import Derived.Test.YtacekbbndamkmaaGreatDoorDcPkC
import Derived.Test.YtacekbbndamkmaaGreatDoorDcPkE
import Derived.Deep.DeepCutAuto
import Derived.Test.YtacekbbndamkmaaGreatDoorDcPkA
import Derived.Test.YtacekbbndamkmaaGreatDoorDcPkB
set_option linter.unusedVariables false
set_option linter.unusedSimpArgs false
namespace Go.Proofs.YtacekbbndamkmaaGreatDoor
open Go.RowKit
open Go.Maps

/-- A number is shorter than another, or as long and less. -/
def lessN (n b : List UInt8) : Bool := decide (n.length < b.length) || (decide (n.length = b.length) && Op.bytesLess n b)
def chIf (x y : Int × Bool) (n : List UInt8) (best : Option (List UInt8)) : Bool := x.2 && ((!y.2 || decide (x.1 < y.1)) && (match best with
  | none => true
  | some m => lessN n m))
def chS (P Q : List UInt8 → Int × Bool) (K : List (List UInt8)) (best : Option (List UInt8)) (s : List UInt8) : Option (List UInt8) := match leastV K s with
  | none => best
  | some n => if chIf (P n) (Q n) n best = true then some n else best
def chTo (P Q : List UInt8 → Int × Bool) (K l : List (List UInt8)) : Option (List UInt8) := l.foldl (chS P Q K) none
def priceD (d : Deck) (talk : Int) (n : List UInt8) : Int × Bool := priceV d.setup d.least d.step d.rates n talk
/-- A number for which one deck is cheaper than another. -/
def cheapV (a b : Deck) (talk : Int) : Option (List UInt8) := chTo (priceD a talk) (priceD b talk) (a.rates.map (·.p) ++ b.rates.map (·.p)) (onceL (a.rates.map (·.p) ++ b.rates.map (·.p)))
theorem chTo_step (P Q : List UInt8 → Int × Bool) (K l : List (List UInt8)) (i : Nat) (hi : i < l.length) : chTo P Q K (l.take (i + 1)) = chS P Q K (chTo P Q K (l.take i)) (l.getD i []) := by
  unfold chTo
  rw [List.take_add_one, List.getElem?_eq_getElem hi, List.foldl_append]
  simp [List.getD_eq_getElem?_getD, hi]
theorem leastTo_len (K : List (List UInt8)) : ∀ n s x, leastTo K n s = some x → x.length = s.length + n
  | 0, s, x, h => by unfold leastTo at h; injection h with h; rw [h]; rfl
  | n + 1, s, x, h => by
    unfold leastTo at h
    obtain ⟨j, _, hj⟩ := List.exists_of_findSome?_eq_some h
    split at hj
    · cases hj
    · have := leastTo_len K n _ x hj
      rw [List.length_append, List.length_singleton] at this
      omega
theorem leastV_len {K : List (List UInt8)} {s x : List UInt8} (h : leastV K s = some x) (hs : s.length ≤ 15) : x.length ≤ 15 := by
  have := leastTo_len K _ s x h
  omega
theorem short15 {a b : Deck} (ha : ∀ r ∈ a.rates, r.p.length ≤ 15 ∧ (r.closed = true → r.price = 0)) (hb : ∀ r ∈ b.rates, r.p.length ≤ 15 ∧ (r.closed = true → r.price = 0)) (i : Nat) : ((onceL (a.rates.map (·.p) ++ b.rates.map (·.p))).getD i []).length ≤ 15 := by
  by_cases hi : i < (onceL (a.rates.map (·.p) ++ b.rates.map (·.p))).length
  · have hs := (mem_once _ _).1 (mem_getD [] hi)
    rcases List.mem_append.1 hs with h | h
    · obtain ⟨r, hr, e⟩ := List.mem_map.1 h
      rw [← e]; exact (ha r hr).1
    · obtain ⟨r, hr, e⟩ := List.mem_map.1 h
      rw [← e]; exact (hb r hr).1
  · rw [List.getD_eq_getElem?_getD, List.getElem?_eq_none (by omega)]; simp
def CheapPost (o : Option (List UInt8)) (F : Int) (w : World) (e : Ending) (w' : World) : Prop := e = .returned (.tuple #[.string ⟨(decS o).toArray⟩, .bool o.isSome, .int .i64 F]) ∧ Below w.heap.size w w'
theorem bl_dch0 (e : Operand → Value) (he : ∀ v, e (.const v) = v) (o : Oper) (w : World) (i0 : Nat) (i1 : Nat) (z0_0 : Int) (z0_1 : Int) (z0_2 : Int) (z0_3 : Int) (a0_4 : Option Addr) (n0_4 : Nat) (m0_4 : Nat) (z1_0 : Int) (z1_1 : Int) (z1_2 : Int) (z1_3 : Int) (a1_4 : Option Addr) (n1_4 : Nat) (m1_4 : Nat) (ho : o.op = .buildSlice 123 2 #[(0, .tmp i0), (1, .tmp i1)]) (h0 : e (.tmp i0) = .agg #[.int .i64 z0_0, .int .i64 z0_1, .int .i64 z0_2, .int .i64 z0_3, .slice a0_4 n0_4 m0_4]) (h1 : e (.tmp i1) = .agg #[.int .i64 z1_0, .int .i64 z1_1, .int .i64 z1_2, .int .i64 z1_3, .slice a1_4 n1_4 m1_4]) :
   (execOp e o).run Tryz.prog w = .ok (.value (.slice (some ⟨w.heap.size, 0, none⟩) 2 2)) (w.alloc (.cells #[.int .i64 z0_0, .int .i64 z0_1, .int .i64 z0_2, .int .i64 z0_3, .slice a0_4 n0_4 m0_4, .int .i64 z1_0, .int .i64 z1_1, .int .i64 z1_2, .int .i64 z1_3, .slice a1_4 n1_4 m1_4] 28)) := by
  unfold execOp
  rw [ho]
  simp only [List.map_toArray, List.map_cons, List.map_nil, h0, h1]
  kernel_rfl
theorem bl_dch1 (e : Operand → Value) (he : ∀ v, e (.const v) = v) (o : Oper) (w : World) (i0 : Nat) (i1 : Nat) (z0 : Int) (z1 : Int) (ho : o.op = .buildSlice 22 2 #[(0, .tmp i0), (1, .tmp i1)]) (h0 : e (.tmp i0) = .int .i64 z0) (h1 : e (.tmp i1) = .int .i64 z1) :
   (execOp e o).run Tryz.prog w = .ok (.value (.slice (some ⟨w.heap.size, 0, none⟩) 2 2)) (w.alloc (.cells #[.int .i64 z0, .int .i64 z1] 3)) := by
  unfold execOp
  rw [ho]
  simp only [List.map_toArray, List.map_cons, List.map_nil, h0, h1]
  kernel_rfl
set_option maxRecDepth 100000 in
set_option maxHeartbeats 8000000 in
theorem cheaper_any (w : World) (a b : Deck) (ha : DeckFine w a) (hb : DeckFine w b) (talk : Int) (E F : Int) (hE : firstE (deckErr a) (deckErr b) = E) (hF : firstE E (if inB talk 0 86400000 = true then 0 else 1) = F) : Calls Tryz.prog 15 #[.agg a.cells.toArray, .agg b.cells.toArray, .int .i64 talk] w (CheapPost (if F = 0 then cheapV a b talk else none) F w) := by
  have HGD : Hid (E = 0 → (DeckGood a.setup a.least a.step a.rates ∧ DeckGood b.setup b.least b.step b.rates) ∧ ∀ i, ((onceL (a.rates.map (·.p) ++ b.rates.map (·.p))).getD i []).length ≤ 15) := fun h => by
    have h2 : deckErr a = 0 ∧ deckErr b = 0 := first_both (hE.trans h)
    have l1 : a.rates.length ≤ 5000 := Nat.le_trans (by rw [← ha.row.len]; exact ha.row.few) (by decide)
    have l2 : b.rates.length ≤ 5000 := Nat.le_trans (by rw [← hb.row.len]; exact hb.row.few) (by decide)
    exact ⟨⟨deck_good l1 h2.1, deck_good l2 h2.2⟩, short15 (deck_more l1 h2.1) (deck_more l2 h2.2)⟩
  have HCV : Hid (cheapV a b talk = chTo (priceD a talk) (priceD b talk) (a.rates.map (·.p) ++ b.rates.map (·.p)) (onceL (a.rates.map (·.p) ++ b.rates.map (·.p)))) := rfl
  generalize cheapV a b talk = R at HCV ⊢
  have HCT : Hid (∀ W, Below w.heap.size w W → Calls Tryz.prog 47 #[.agg a.cells.toArray, .agg b.cells.toArray] W (ErrPost E W)) := fun W hW => hE ▸ checkTwo_any W a b (ha.below hW) (hb.below hW)
  have HP2 := Lib.hid (preTwo ha hb)
  have HDL : Hid (∀ W, Below w.heap.size w W → DeckRow (W.alloc (.cells (([a, b].map Deck.cells).flatten).toArray 28)) (some ⟨W.heap.size, 0, none⟩) 2 [a, b]) := fun W hW => deck_lit W [a, b] (by simp) (fun i hi => by
    have hi' : i < 2 := by simpa using hi
    match i, hi' with
    | 0, _ => exact ha.below hW
    | 1, _ => exact hb.below hW)
  have HPT : Hid (prefK [a, b] = a.rates.map (·.p) ++ b.rates.map (·.p)) := pre_two a b
  have HSA : Hid (E = 0 → RSorted a.rates ∧ RSorted b.rates) := fun h => by
    have h2 : deckErr a = 0 ∧ deckErr b = 0 := first_both (hE.trans h)
    exact ⟨(deck_good (Nat.le_trans (by rw [← ha.row.len]; exact ha.row.few) (by decide)) h2.1).sorted, (deck_good (Nat.le_trans (by rw [← hb.row.len]; exact hb.row.few) (by decide)) h2.2).sorted⟩
  have HRA := Lib.hid ha.row
  have HRB := Lib.hid hb.row
  clear ha hb hE
  obtain ⟨gf, gs, gl, gp, ga, gn, gc, grs⟩ := a
  obtain ⟨kf, ks, kl, kp, ka, kn, kc, krs⟩ := b
  have HCT2 : Hid (∀ W, Below w.heap.size w W → Calls Tryz.prog 47 #[.agg #[.int .i64 gf, .int .i64 gs, .int .i64 gl, .int .i64 gp, .slice ga gn gc], .agg #[.int .i64 kf, .int .i64 ks, .int .i64 kl, .int .i64 kp, .slice ka kn kc]] W (ErrPost E W)) := HCT.out
  have HDL2 : Hid (∀ W, Below w.heap.size w W → DeckRow (W.alloc (.cells #[.int .i64 gf, .int .i64 gs, .int .i64 gl, .int .i64 gp, .slice ga gn gc, .int .i64 kf, .int .i64 ks, .int .i64 kl, .int .i64 kp, .slice ka kn kc] 28)) (some ⟨W.heap.size, 0, none⟩) 2 [(⟨gf, gs, gl, gp, ga, gn, gc, grs⟩ : Deck), (⟨kf, ks, kl, kp, ka, kn, kc, krs⟩ : Deck)]) := HDL.out
  show Calls Tryz.prog 15 #[.agg #[.int .i64 gf, .int .i64 gs, .int .i64 gl, .int .i64 gp, .slice ga gn gc], .agg #[.int .i64 kf, .int .i64 ks, .int .i64 kl, .int .i64 kp, .slice ka kn kc], .int .i64 talk] w _
  simp only at HPT HSA HRA HRB HP2 ⊢
  clear HCT HDL
  have HPD : Hid (priceD (⟨gf, gs, gl, gp, ga, gn, gc, grs⟩ : Deck) talk = fun n => priceV gs gl gp grs n talk) := rfl
  have HQD : Hid (priceD (⟨kf, ks, kl, kp, ka, kn, kc, krs⟩ : Deck) talk = fun n => priceV ks kl kp krs n talk) := rfl
  generalize priceD (⟨gf, gs, gl, gp, ga, gn, gc, grs⟩ : Deck) talk = P at HPD HCV
  generalize priceD (⟨kf, ks, kl, kp, ka, kn, kc, krs⟩ : Deck) talk = Q at HQD HCV
  simp only at HGD HCV
  by_cases hE : E = 0
  case neg =>
    have hFE : F = E := by rw [← hF]; exact if_pos hE
    rw [if_neg (by rw [hFE]; exact hE)]
    have hEb : (E == 0) = false := beq_eq_false_iff_ne.2 hE
    clear HSA HRA HRB HPT HP2 HDL2 HGD HCV HPD HQD hF
    subst hFE
    have HX : Hid (Blk ((w.alloc (.cells #[.int .i64 gf, .int .i64 gs, .int .i64 gl, .int .i64 gp, .slice ga gn gc] 28)).alloc (.cells #[.int .i64 kf, .int .i64 ks, .int .i64 kl, .int .i64 kp, .slice ka kn kc] 28)) w.heap.size [.int .i64 gf, .int .i64 gs, .int .i64 gl, .int .i64 gp, .slice ga gn gc] 28) := (Blk.new w _ _).alloc _
    have HY : Hid (Blk ((w.alloc (.cells #[.int .i64 gf, .int .i64 gs, .int .i64 gl, .int .i64 gp, .slice ga gn gc] 28)).alloc (.cells #[.int .i64 kf, .int .i64 ks, .int .i64 kl, .int .i64 kp, .slice ka kn kc] 28)) (w.heap.size + 1) [.int .i64 kf, .int .i64 ks, .int .i64 kl, .int .i64 kp, .slice ka kn kc] 28) := by
      have := Blk.new (w.alloc (.cells #[.int .i64 gf, .int .i64 gs, .int .i64 gl, .int .i64 gp, .slice ga gn gc] 28)) [.int .i64 kf, .int .i64 ks, .int .i64 kl, .int .i64 kp, .slice ka kn kc] 28
      rw [show (w.alloc (.cells #[.int .i64 gf, .int .i64 gs, .int .i64 gl, .int .i64 gp, .slice ga gn gc] 28)).heap.size = w.heap.size + 1 by simp] at this
      exact this
    have HA : Hid (Below w.heap.size w ((w.alloc (.cells #[.int .i64 gf, .int .i64 gs, .int .i64 gl, .int .i64 gp, .slice ga gn gc] 28)).alloc (.cells #[.int .i64 kf, .int .i64 ks, .int .i64 kl, .int .i64 kp, .slice ka kn kc] 28))) := ext_alloc (ext_alloc (Below.refl _ _))
    go_enter Tryz.func15, Tryz.ntmps15
    as_aux_lemma =>
      go_upto_region 1 with (fail)
      generalize World.alloc (World.alloc w _) _ = w1 at HX HY HA ⊢
      obtain ⟨Y, hY⟩ : ∃ Y, Y = w.heap.size + 1 := ⟨_, rfl⟩
      obtain ⟨X, hX⟩ : ∃ X, X = w.heap.size := ⟨_, rfl⟩
      rw [← hY] at HY
      rw [← hX] at HX
      simp only [← hY]
      simp only [← hX]
      clear hX hY
      have x0 := HX.out.cell 0 rfl
      have x1 := HX.out.cell 1 rfl
      have x2 := HX.out.cell 2 rfl
      have x3 := HX.out.cell 3 rfl
      have x4 := HX.out.cell 4 rfl
      have y0 := HY.out.cell 0 rfl
      have y1 := HY.out.cell 1 rfl
      have y2 := HY.out.cell 2 rfl
      have y3 := HY.out.cell 3 rfl
      have y4 := HY.out.cell 4 rfl
      as_aux_lemma =>
        go_wp2_with fail
        refine (HCT2.out w1 HA.out).mono ?_
        rintro e w2 ⟨rfl, hb2⟩
        have HB2 := Lib.hid (ext_trans HA.out hb2)
        clear hb2 HX HY HA HCT2 x0 x1 x2 x3 x4 y0 y1 y2 y3 y4
        as_aux_lemma =>
          go_wp2_with fail
          refine bodyPost_ret (v := .tuple #[.string ⟨#[]⟩, .bool false, .int .i64 F]) (by simp [results, Tryz.results15, go_sem]) rfl ⟨rfl, HB2.out⟩
  subst hE
  by_cases hT : inB talk 0 86400000 = true
  case neg =>
    have hFE : F = 1 := by rw [← hF, if_neg hT]; rfl
    subst hFE
    rw [if_neg (by decide)]
    have hTf : inB talk 0 86400000 = false := Bool.not_eq_true _ |>.mp hT
    clear HSA HRA HRB HPT HP2 HDL2 HGD HCV HPD HQD hF hT
    have HX : Hid (Blk ((w.alloc (.cells #[.int .i64 gf, .int .i64 gs, .int .i64 gl, .int .i64 gp, .slice ga gn gc] 28)).alloc (.cells #[.int .i64 kf, .int .i64 ks, .int .i64 kl, .int .i64 kp, .slice ka kn kc] 28)) w.heap.size [.int .i64 gf, .int .i64 gs, .int .i64 gl, .int .i64 gp, .slice ga gn gc] 28) := (Blk.new w _ _).alloc _
    have HY : Hid (Blk ((w.alloc (.cells #[.int .i64 gf, .int .i64 gs, .int .i64 gl, .int .i64 gp, .slice ga gn gc] 28)).alloc (.cells #[.int .i64 kf, .int .i64 ks, .int .i64 kl, .int .i64 kp, .slice ka kn kc] 28)) (w.heap.size + 1) [.int .i64 kf, .int .i64 ks, .int .i64 kl, .int .i64 kp, .slice ka kn kc] 28) := by
      have := Blk.new (w.alloc (.cells #[.int .i64 gf, .int .i64 gs, .int .i64 gl, .int .i64 gp, .slice ga gn gc] 28)) [.int .i64 kf, .int .i64 ks, .int .i64 kl, .int .i64 kp, .slice ka kn kc] 28
      rw [show (w.alloc (.cells #[.int .i64 gf, .int .i64 gs, .int .i64 gl, .int .i64 gp, .slice ga gn gc] 28)).heap.size = w.heap.size + 1 by simp] at this
      exact this
    have HA : Hid (Below w.heap.size w ((w.alloc (.cells #[.int .i64 gf, .int .i64 gs, .int .i64 gl, .int .i64 gp, .slice ga gn gc] 28)).alloc (.cells #[.int .i64 kf, .int .i64 ks, .int .i64 kl, .int .i64 kp, .slice ka kn kc] 28))) := ext_alloc (ext_alloc (Below.refl _ _))
    go_enter Tryz.func15, Tryz.ntmps15
    as_aux_lemma =>
      go_upto_region 1 with (fail)
      generalize World.alloc (World.alloc w _) _ = w1 at HX HY HA ⊢
      obtain ⟨Y, hY⟩ : ∃ Y, Y = w.heap.size + 1 := ⟨_, rfl⟩
      obtain ⟨X, hX⟩ : ∃ X, X = w.heap.size := ⟨_, rfl⟩
      rw [← hY] at HY
      rw [← hX] at HX
      simp only [← hY]
      simp only [← hX]
      clear hX hY
      have x0 := HX.out.cell 0 rfl
      have x1 := HX.out.cell 1 rfl
      have x2 := HX.out.cell 2 rfl
      have x3 := HX.out.cell 3 rfl
      have x4 := HX.out.cell 4 rfl
      have y0 := HY.out.cell 0 rfl
      have y1 := HY.out.cell 1 rfl
      have y2 := HY.out.cell 2 rfl
      have y3 := HY.out.cell 3 rfl
      have y4 := HY.out.cell 4 rfl
      as_aux_lemma =>
        go_wp2_with fail
        refine (HCT2.out w1 HA.out).mono ?_
        rintro e w2 ⟨rfl, hb2⟩
        have HB2 := Lib.hid (ext_trans HA.out hb2)
        have HWI := Lib.hid (within_c talk 0 86400000 w2)
        rw [hTf] at HWI
        clear hb2 HX HY HA HCT2 x0 x1 x2 x3 x4 y0 y1 y2 y3 y4 hTf
        as_aux_lemma =>
          go_wp2_with fail
          refine HWI.out.mono ?_
          rintro e w3 ⟨rfl, hw3⟩
          subst hw3
          as_aux_lemma =>
            go_wp2_with fail
            refine bodyPost_ret (v := .tuple #[.string ⟨#[]⟩, .bool false, .int .i64 1]) (by simp [results, Tryz.results15, go_sem]) rfl ⟨rfl, HB2.out⟩
  have hFE : F = 0 := by rw [← hF, if_pos hT]; rfl
  subst hFE
  rw [if_pos rfl]
  obtain ⟨⟨hga, hgb⟩, h15⟩ := HGD.out rfl
  have HGA := Lib.hid hga
  have HGB := Lib.hid hgb
  have H15 := Lib.hid h15
  have htk : 0 ≤ talk ∧ talk ≤ 86400000 := by unfold inB at hT; simpa using hT
  have HTK := Lib.hid htk
  have HTT := Lib.hid hT
  clear hga hgb h15 HGD htk hT hF HSA
  generalize grs.map (·.p) ++ krs.map (·.p) = K at HPT HP2 HCV H15
  have HX : Hid (Blk ((w.alloc (.cells #[.int .i64 gf, .int .i64 gs, .int .i64 gl, .int .i64 gp, .slice ga gn gc] 28)).alloc (.cells #[.int .i64 kf, .int .i64 ks, .int .i64 kl, .int .i64 kp, .slice ka kn kc] 28)) w.heap.size [.int .i64 gf, .int .i64 gs, .int .i64 gl, .int .i64 gp, .slice ga gn gc] 28) := (Blk.new w _ _).alloc _
  have HY : Hid (Blk ((w.alloc (.cells #[.int .i64 gf, .int .i64 gs, .int .i64 gl, .int .i64 gp, .slice ga gn gc] 28)).alloc (.cells #[.int .i64 kf, .int .i64 ks, .int .i64 kl, .int .i64 kp, .slice ka kn kc] 28)) (w.heap.size + 1) [.int .i64 kf, .int .i64 ks, .int .i64 kl, .int .i64 kp, .slice ka kn kc] 28) := by
    have := Blk.new (w.alloc (.cells #[.int .i64 gf, .int .i64 gs, .int .i64 gl, .int .i64 gp, .slice ga gn gc] 28)) [.int .i64 kf, .int .i64 ks, .int .i64 kl, .int .i64 kp, .slice ka kn kc] 28
    rw [show (w.alloc (.cells #[.int .i64 gf, .int .i64 gs, .int .i64 gl, .int .i64 gp, .slice ga gn gc] 28)).heap.size = w.heap.size + 1 by simp] at this
    exact this
  have HA : Hid (Below w.heap.size w ((w.alloc (.cells #[.int .i64 gf, .int .i64 gs, .int .i64 gl, .int .i64 gp, .slice ga gn gc] 28)).alloc (.cells #[.int .i64 kf, .int .i64 ks, .int .i64 kl, .int .i64 kp, .slice ka kn kc] 28))) := ext_alloc (ext_alloc (Below.refl _ _))
  go_enter Tryz.func15, Tryz.ntmps15
  as_aux_lemma =>
    go_upto_region 1 with (fail)
    generalize World.alloc (World.alloc w _) _ = w1 at HX HY HA ⊢
    obtain ⟨Y, hY⟩ : ∃ Y, Y = w.heap.size + 1 := ⟨_, rfl⟩
    obtain ⟨X, hX⟩ : ∃ X, X = w.heap.size := ⟨_, rfl⟩
    rw [← hY] at HY
    rw [← hX] at HX
    simp only [← hY]
    simp only [← hX]
    clear hX hY
    have x0 := HX.out.cell 0 rfl
    have x1 := HX.out.cell 1 rfl
    have x2 := HX.out.cell 2 rfl
    have x3 := HX.out.cell 3 rfl
    have x4 := HX.out.cell 4 rfl
    have y0 := HY.out.cell 0 rfl
    have y1 := HY.out.cell 1 rfl
    have y2 := HY.out.cell 2 rfl
    have y3 := HY.out.cell 3 rfl
    have y4 := HY.out.cell 4 rfl
    as_aux_lemma =>
      go_wp2_with fail
      refine (HCT2.out w1 HA.out).mono ?_
      rintro e w2 ⟨rfl, hb2⟩
      have HX2 := Lib.hid (HX.out.below hb2)
      have HY2 := Lib.hid (HY.out.below hb2)
      have HB2 := Lib.hid (ext_trans HA.out hb2)
      have HWI := Lib.hid (within_c talk 0 86400000 w2)
      rw [HTT.out] at HWI
      clear hb2 HX HY HA HCT2 x0 x1 x2 x3 x4 y0 y1 y2 y3 y4
      as_aux_lemma =>
        go_wp2_with fail
        refine HWI.out.mono ?_
        rintro e w3 ⟨rfl, hw3⟩
        subst hw3
        clear HWI
        have x0 := HX2.out.cell 0 rfl
        have x1 := HX2.out.cell 1 rfl
        have x2 := HX2.out.cell 2 rfl
        have x3 := HX2.out.cell 3 rfl
        have x4 := HX2.out.cell 4 rfl
        have y0 := HY2.out.cell 0 rfl
        have y1 := HY2.out.cell 1 rfl
        have y2 := HY2.out.cell 2 rfl
        have y3 := HY2.out.cell 3 rfl
        have y4 := HY2.out.cell 4 rfl
        have hA : Below w2.heap.size w2 (w2.alloc (.cells #[.int .i64 gf, .int .i64 gs, .int .i64 gl, .int .i64 gp, .slice ga gn gc, .int .i64 kf, .int .i64 ks, .int .i64 kl, .int .i64 kp, .slice ka kn kc] 28)) := ext_alloc (Below.refl _ _)
        have HX3 := Lib.hid (HX2.out.below hA)
        have HY3 := Lib.hid (HY2.out.below hA)
        have HB3 := Lib.hid (ext_trans HB2.out hA)
        have HD3 := Lib.hid (HDL2.out w2 HB2.out)
        clear hA HX2 HY2 HB2 HDL2
        as_aux_lemma =>
          go_wp2_with (first | (refine wpList_val rfl (bl_dch0 _ (fun _ => rfl) _ _ 30 31 gf gs gl gp ga gn gc kf ks kl kp ka kn kc rfl rfl rfl) ?_))
          generalize (w2.alloc (.cells #[.int .i64 gf, .int .i64 gs, .int .i64 gl, .int .i64 gp, .slice ga gn gc, .int .i64 kf, .int .i64 ks, .int .i64 kl, .int .i64 kp, .slice ka kn kc] 28)) = w3 at HX3 HY3 HB3 HD3 ⊢
          generalize w2.heap.size = V2 at HD3 ⊢
          clear x0 x1 x2 x3 x4 y0 y1 y2 y3 y4
          refine (prefixesOf_any w3 _ 2 _ _ HD3.out (by decide)).mono ?_
          rintro e w4 ⟨mb, D, rfl, hm4, hms, hmb, hb4⟩
          rw [HPT.out] at hm4 hms
          have HM4 := Lib.hid hm4
          have HMS := Lib.hid hms
          have HX4 := Lib.hid (HX3.out.below hb4)
          have HY4 := Lib.hid (HY3.out.below hb4)
          have HB4 := Lib.hid (ext_trans HB3.out hb4)
          have hk2 := HP2.out.few
          have HLI := Lib.hid (list_any K (by omega) mb K.length D hms w4 hm4)
          clear hm4 hms hmb hb4 HX3 HY3 HB3 HD3 HPT
          as_aux_lemma =>
            go_wp2_with fail
            refine HLI.out.mono ?_
            rintro e w5 ⟨v5, rfl, ho5, hb5⟩
            obtain ⟨va, vc, rfl⟩ := own_shape ho5
            have HO5 := Lib.hid ho5
            have HM5 := Lib.hid (own_mapB HM4.out hb5)
            have HX5 := Lib.hid (HX4.out.below hb5)
            have HY5 := Lib.hid (HY4.out.below hb5)
            have HB5 := Lib.hid (ext_trans HB4.out hb5)
            have hkl := once_len K
            generalize w4.heap.size = W4 at HO5
            clear ho5 hb5 HLI HM4 HX4 HY4 HB4
            as_aux_lemma =>
              go_wp2_with fail
              go_loopw [11, 12, 37] (fun vb vf it wr => ∃ (i : Nat) (best : Option (List UInt8)), i ≤ (onceL K).length ∧ it = .int .i64 i ∧ vb = .string ⟨(best.getD []).toArray⟩ ∧ vf = .bool best.isSome ∧ Hid (best = chTo P Q K ((onceL K).take i)) ∧ Hid (∀ m, best = some m → m.length ≤ 15) ∧ Hid (Below w5.heap.size w5 wr)) (fun _ _ it _ => (onceL K).length - (intOf it).toNat)
              case atStart => exact ⟨0, none, Nat.zero_le _, rfl, rfl, rfl, rfl, (fun m h => by cases h), Below.refl _ _⟩
              case round =>
                obtain ⟨i, best, hin, rfl, rfl, rfl, HU, HML, HB⟩ := hrel
                by_cases hlt : i < (onceL K).length
                case neg =>
                  have hii : i = (onceL K).length := by omega
                  have HRB9 : Hid (R = best) := by
                    show _ = _
                    rw [HCV.out, HU.out, hii, List.take_length]
                  have hnn : ¬ (i : Int) < ((onceL K).length : Int) := by omega
                  have HB9 := Lib.hid (ext_trans HB5.out HB.out)
                  clear HU HB HCV HX5 HY5 HM5 HO5 HB5 HPD HQD HGA HGB H15
                  cases best with
                  | none =>
                    as_aux_lemma =>
                      go_wp2_with fail
                      refine bodyPost_ret (v := .tuple #[.string ⟨#[]⟩, .bool false, .int .i64 0]) (by simp [results, Tryz.results15, go_sem]) rfl ?_
                      exact ⟨by rw [HRB9.out]; rfl, HB9.out⟩
                  | some m =>
                    have HCF := Lib.hid (cat_front m)
                    have hml := HML.out m rfl
                    simp only [Option.getD_some, Option.isSome_some]
                    as_aux_lemma =>
                      go_wp2_with fail
                      refine bodyPost_ret (v := .tuple #[.string ⟨(43 :: m : List UInt8).toArray⟩, .bool true, .int .i64 0]) (by rw [← HCF.out]; simp [results, Tryz.results15, go_sem]) rfl ?_
                      exact ⟨by rw [HRB9.out]; rfl, HB9.out⟩
                have hlti : (i : Int) < ((onceL K).length : Int) := by omega
                have HOL := Lib.hid (own_keep HO5.out HB.out)
                obtain ⟨g, rfl, hg0, hg1⟩ := own_pos HOL.out (by omega)
                have c0 : wr.cell? ⟨g, i, none⟩ = some (.string ⟨((onceL K).getD i []).toArray⟩) := by
                  have h9 := HOL.out.cellAt i (by omega)
                  rw [h9]
                  simp [encS, List.getD_eq_getElem?_getD, hlt]
                have hsl := H15.out i
                have HST : Hid (chTo P Q K ((onceL K).take (i + 1)) = chS P Q K (chTo P Q K ((onceL K).take i)) ((onceL K).getD i [])) := chTo_step P Q K _ i hlt
                generalize (onceL K).getD i [] = s at c0 hsl HST
                have HLS : Hid (Calls Tryz.prog 50 #[.map (some mb), .string ⟨s.toArray⟩] wr (LeastPost (leastV K s) wr)) := least_any K mb K.length D HMS.out (4 - s.length) s wr (own_mapB HM5.out HB.out) (by omega) rfl
                have HLL : Hid (∀ x, leastV K s = some x → x.length ≤ 15) := fun x h => leastV_len h hsl
                have HCS : Hid (∀ b9, chS P Q K b9 s = match leastV K s with
                  | none => b9
                  | some n => if chIf (P n) (Q n) n b9 = true then some n else b9) := fun b9 => rfl
                generalize leastV K s = o at HLS HLL HCS
                clear HOL
                as_aux_lemma =>
                  go_wp2_with fail
                  refine HLS.out.mono ?_
                  rintro e w6 ⟨rfl, hb6⟩
                  have HB6 := Lib.hid (ext_trans HB.out hb6)
                  clear HLS hb6 HB c0
                  cases o with
                  | none =>
                    have HN : Hid (best = chTo P Q K ((onceL K).take (i + 1))) := by
                      show _ = _
                      rw [HST.out, ← HU.out]
                      exact (HCS.out best).symm
                    clear HST HU
                    as_aux_lemma =>
                      go_wp2_with fail
                      go_roundw
                      case rel => exact ⟨i + 1, best, by omega, by go_num, rfl, rfl, HN.out, HML.out, HB6.out⟩
                      case measure => simp [intOf]; omega
                  | some x =>
                    have HXL : Hid (∀ m, some x = some m → m.length ≤ 15) := fun m h => by injection h with h; rw [← h]; exact HLL.out x rfl
                    have hxl := HLL.out x rfl
                    have HCS2 : Hid (∀ b9, chS P Q K b9 s = if chIf (P x) (Q x) x b9 = true then some x else b9) := HCS.out
                    have HPX : Hid (P x = priceV gs gl gp grs x talk) := by show _ = _; rw [HPD.out]
                    have HQX : Hid (Q x = priceV ks kl kp krs x talk) := by show _ = _; rw [HQD.out]
                    have HR1 : Hid (∀ W, Below w5.heap.size w5 W → Calls Tryz.prog 56 #[.agg #[.int .i64 gf, .int .i64 gs, .int .i64 gl, .int .i64 gp, .slice ga gn gc], .string ⟨x.toArray⟩, .int .i64 talk] W (PriceOfPost (P x) W)) := fun W hW => by
                      rw [HPX.out]
                      exact priceOf_any W gf gs gl gp ga gn gc grs x talk (HRA.out.below (ext_trans HB5.out hW)) HGA.out (by omega) HTK.out
                    have HR2 : Hid (∀ W, Below w5.heap.size w5 W → Calls Tryz.prog 56 #[.agg #[.int .i64 kf, .int .i64 ks, .int .i64 kl, .int .i64 kp, .slice ka kn kc], .string ⟨x.toArray⟩, .int .i64 talk] W (PriceOfPost (Q x) W)) := fun W hW => by
                      rw [HQX.out]
                      exact priceOf_any W kf ks kl kp ka kn kc krs x talk (HRB.out.below (ext_trans HB5.out hW)) HGB.out (by omega) HTK.out
                    have HCS := HCS2
                    clear HCS2 HPX HQX HLL
                    have HX6 := Lib.hid (HX5.out.below HB6.out)
                    have HY6 := Lib.hid (HY5.out.below HB6.out)
                    have x0 := HX6.out.cell 0 rfl
                    have x1 := HX6.out.cell 1 rfl
                    have x2 := HX6.out.cell 2 rfl
                    have x3 := HX6.out.cell 3 rfl
                    have x4 := HX6.out.cell 4 rfl
                    as_aux_lemma =>
                      go_wp2_with fail
                      refine (HR1.out w6 HB6.out).mono ?_
                      rcases hpx : P x with ⟨f1v, f1⟩
                      rintro e w7 ⟨rfl, hb7⟩
                      have HP1 := Lib.hid hpx
                      clear hpx HR1 x0 x1 x2 x3 x4
                      have HY7 := Lib.hid (HY6.out.below hb7)
                      have HB7 := Lib.hid (ext_trans HB6.out hb7)
                      clear hb7 HB6 HX6 HY6
                      simp only
                      have y0 := HY7.out.cell 0 rfl
                      have y1 := HY7.out.cell 1 rfl
                      have y2 := HY7.out.cell 2 rfl
                      have y3 := HY7.out.cell 3 rfl
                      have y4 := HY7.out.cell 4 rfl
                      as_aux_lemma =>
                        go_wp2_with fail
                        refine (HR2.out w7 HB7.out).mono ?_
                        rcases hqx : Q x with ⟨f2v, f2⟩
                        rintro e w8 ⟨rfl, hb8⟩
                        have HQ1 := Lib.hid hqx
                        have HB8 := Lib.hid (ext_trans HB7.out hb8)
                        clear hqx HR2 y0 y1 y2 y3 y4 hb8 HB7 HY7
                        simp only
                        cases f1 with
                        | false =>
                          have hq : chIf (P x) (Q x) x best = false := by rw [HP1.out]; rfl
                          have HN : Hid (best = chTo P Q K ((onceL K).take (i + 1))) := by
                            show _ = _
                            rw [HST.out, ← HU.out]
                            show _ = chS P Q K _ s; rw [HCS.out]; rw [if_neg (by rw [hq]; decide)]
                          clear HST HU
                          as_aux_lemma =>
                            go_wp2_with fail
                            go_roundw
                            case rel => exact ⟨i + 1, best, by omega, by go_num, rfl, rfl, HN.out, HML.out, HB8.out⟩
                            case measure => simp [intOf]; omega
                        | true =>
                          cases f2 with
                          | false =>
                            cases best with
                            | none =>
                              have hq : chIf (P x) (Q x) x none = true := by rw [HP1.out, HQ1.out]; rfl
                              have HN : Hid (some x = chTo P Q K ((onceL K).take (i + 1))) := by
                                show _ = _
                                rw [HST.out, ← HU.out]
                                show _ = chS P Q K _ s; rw [HCS.out]; rw [if_pos hq]
                              clear HST HU
                              as_aux_lemma =>
                                go_wp2_with fail
                                go_roundw
                                case rel => exact ⟨i + 1, some x, by omega, by go_num, rfl, rfl, HN.out, HXL.out, HB8.out⟩
                                case measure => simp [intOf]; omega
                            | some m =>
                              have hml := HML.out m rfl
                              simp only [Option.getD_some, Option.isSome_some]
                              as_aux_lemma =>
                                go_wp2_with fail
                                refine (cmpI_any _ _ _).mono ?_
                                rintro e w9 ⟨z1, rfl, hz1, hz2, hw9⟩
                                replace hw9 := hw9.symm
                                subst hw9
                                as_aux_lemma =>
                                  go_wp2_with fail
                                  refine (cmpB_any _ _ _).mono ?_
                                  rintro e w9 ⟨z2, rfl, hz3, hz4, hw9⟩
                                  replace hw9 := hw9.symm
                                  subst hw9
                                  have HZ := Lib.hid (And.intro hz1 (And.intro hz2 (And.intro hz3 hz4)))
                                  clear hz1 hz2 hz3 hz4
                                  have HB9 : Hid (Below w5.heap.size w5 (w8.alloc (.cells #[.int .i64 z1, .int .i64 z2] 3))) := ext_alloc HB8.out
                                  have HZB : Hid (Blk (w8.alloc (.cells #[.int .i64 z1, .int .i64 z2] 3)) w8.heap.size [.int .i64 z1, .int .i64 z2] 3) := Blk.new w8 _ _
                                  as_aux_lemma =>
                                    go_wp2_with (first | (refine wpList_val rfl (bl_dch1 _ (fun _ => rfl) _ _ 80 83 z1 z2 rfl rfl rfl) ?_))
                                    refine (orI_any z1 z2 w8.heap.size _ HZB.out.lt (HZB.out.cell 0 rfl) (HZB.out.cell 1 rfl)).mono ?_
                                    rintro e w9 ⟨rfl, hw9⟩
                                    subst hw9
                                    generalize hz5 : firstE z1 z2 = z
                                    have HZ5 := Lib.hid hz5
                                    clear hz5 HZB
                                    generalize w8.alloc (.cells #[.int .i64 z1, .int .i64 z2] 3) = w9 at HB9 ⊢
                                    by_cases hln : lessN x m = true
                                    · have hzn : z < 0 := by
                                        have h1 := HZ5.out
                                        obtain ⟨k1, k2, k3, k4⟩ := HZ.out
                                        unfold lessN at hln
                                        simp only [Bool.or_eq_true, Bool.and_eq_true, decide_eq_true_eq] at hln
                                        unfold firstE at h1
                                        rcases hln with h2 | ⟨h2, h3⟩
                                        · have := k1.2 (by omega)
                                          rw [if_pos (by omega)] at h1
                                          omega
                                        · have h4 := k2.2 (by omega)
                                          rw [if_neg (by omega)] at h1
                                          have := k3.2 h3
                                          omega
                                      have hq : chIf (P x) (Q x) x (some m) = true := by rw [HP1.out, HQ1.out]; show chIf _ _ _ _ = true; unfold chIf; simp only [hln]; rfl
                                      clear hln
                                      have HN : Hid (some x = chTo P Q K ((onceL K).take (i + 1))) := by
                                        show _ = _
                                        rw [HST.out, ← HU.out]
                                        show _ = chS P Q K _ s; rw [HCS.out]; rw [if_pos hq]
                                      clear HST HU
                                      as_aux_lemma =>
                                        go_wp2_with fail
                                        go_roundw
                                        case rel => exact ⟨i + 1, some x, by omega, by go_num, rfl, rfl, HN.out, HXL.out, HB9.out⟩
                                        case measure => simp [intOf]; omega
                                    have hzn : ¬ z < 0 := by
                                      have h1 := HZ5.out
                                      obtain ⟨k1, k2, k3, k4⟩ := HZ.out
                                      intro hz
                                      apply hln
                                      unfold lessN
                                      simp only [Bool.or_eq_true, Bool.and_eq_true, decide_eq_true_eq]
                                      unfold firstE at h1
                                      by_cases h2 : z1 = 0
                                      · rw [if_neg (by omega)] at h1
                                        exact Or.inr ⟨by have := k2.1 h2; omega, k3.1 (by omega)⟩
                                      · rw [if_pos h2] at h1
                                        exact Or.inl (by have := k1.1 (by omega); omega)
                                    have hq : chIf (P x) (Q x) x (some m) = false := by rw [HP1.out, HQ1.out]; have hl9 := Bool.not_eq_true _ |>.mp hln; simp [chIf, hl9]
                                    clear hln
                                    have HN : Hid (some m = chTo P Q K ((onceL K).take (i + 1))) := by
                                      show _ = _
                                      rw [HST.out, ← HU.out]
                                      show _ = chS P Q K _ s; rw [HCS.out]; rw [if_neg (by rw [hq]; decide)]
                                    clear HST HU
                                    as_aux_lemma =>
                                      go_wp2_with fail
                                      go_roundw
                                      case rel => exact ⟨i + 1, some m, by omega, by go_num, rfl, rfl, HN.out, HML.out, HB9.out⟩
                                      case measure => simp [intOf]; omega
                          | true =>
                            by_cases hxy : f1v < f2v
                            · have hge : ¬ f1v ≥ f2v := by omega
                              cases best with
                              | none =>
                                have hq : chIf (P x) (Q x) x none = true := by rw [HP1.out, HQ1.out]; simp [chIf, hxy]
                                have HN : Hid (some x = chTo P Q K ((onceL K).take (i + 1))) := by
                                  show _ = _
                                  rw [HST.out, ← HU.out]
                                  show _ = chS P Q K _ s; rw [HCS.out]; rw [if_pos hq]
                                clear HST HU
                                as_aux_lemma =>
                                  go_wp2_with fail
                                  go_roundw
                                  case rel => exact ⟨i + 1, some x, by omega, by go_num, rfl, rfl, HN.out, HXL.out, HB8.out⟩
                                  case measure => simp [intOf]; omega
                              | some m =>
                                have hml := HML.out m rfl
                                simp only [Option.getD_some, Option.isSome_some]
                                as_aux_lemma =>
                                  go_wp2_with fail
                                  refine (cmpI_any _ _ _).mono ?_
                                  rintro e w9 ⟨z1, rfl, hz1, hz2, hw9⟩
                                  replace hw9 := hw9.symm
                                  subst hw9
                                  as_aux_lemma =>
                                    go_wp2_with fail
                                    refine (cmpB_any _ _ _).mono ?_
                                    rintro e w9 ⟨z2, rfl, hz3, hz4, hw9⟩
                                    replace hw9 := hw9.symm
                                    subst hw9
                                    have HZ := Lib.hid (And.intro hz1 (And.intro hz2 (And.intro hz3 hz4)))
                                    clear hz1 hz2 hz3 hz4
                                    have HB9 : Hid (Below w5.heap.size w5 (w8.alloc (.cells #[.int .i64 z1, .int .i64 z2] 3))) := ext_alloc HB8.out
                                    have HZB : Hid (Blk (w8.alloc (.cells #[.int .i64 z1, .int .i64 z2] 3)) w8.heap.size [.int .i64 z1, .int .i64 z2] 3) := Blk.new w8 _ _
                                    as_aux_lemma =>
                                      go_wp2_with (first | (refine wpList_val rfl (bl_dch1 _ (fun _ => rfl) _ _ 80 83 z1 z2 rfl rfl rfl) ?_))
                                      refine (orI_any z1 z2 w8.heap.size _ HZB.out.lt (HZB.out.cell 0 rfl) (HZB.out.cell 1 rfl)).mono ?_
                                      rintro e w9 ⟨rfl, hw9⟩
                                      subst hw9
                                      generalize hz5 : firstE z1 z2 = z
                                      have HZ5 := Lib.hid hz5
                                      clear hz5 HZB
                                      generalize w8.alloc (.cells #[.int .i64 z1, .int .i64 z2] 3) = w9 at HB9 ⊢
                                      by_cases hln : lessN x m = true
                                      · have hzn : z < 0 := by
                                          have h1 := HZ5.out
                                          obtain ⟨k1, k2, k3, k4⟩ := HZ.out
                                          unfold lessN at hln
                                          simp only [Bool.or_eq_true, Bool.and_eq_true, decide_eq_true_eq] at hln
                                          unfold firstE at h1
                                          rcases hln with h2 | ⟨h2, h3⟩
                                          · have := k1.2 (by omega)
                                            rw [if_pos (by omega)] at h1
                                            omega
                                          · have h4 := k2.2 (by omega)
                                            rw [if_neg (by omega)] at h1
                                            have := k3.2 h3
                                            omega
                                        have hq : chIf (P x) (Q x) x (some m) = true := by rw [HP1.out, HQ1.out]; show chIf _ _ _ _ = true; unfold chIf; simp only [hln]; simp [chIf, hxy]
                                        clear hln
                                        have HN : Hid (some x = chTo P Q K ((onceL K).take (i + 1))) := by
                                          show _ = _
                                          rw [HST.out, ← HU.out]
                                          show _ = chS P Q K _ s; rw [HCS.out]; rw [if_pos hq]
                                        clear HST HU
                                        as_aux_lemma =>
                                          go_wp2_with fail
                                          go_roundw
                                          case rel => exact ⟨i + 1, some x, by omega, by go_num, rfl, rfl, HN.out, HXL.out, HB9.out⟩
                                          case measure => simp [intOf]; omega
                                      have hzn : ¬ z < 0 := by
                                        have h1 := HZ5.out
                                        obtain ⟨k1, k2, k3, k4⟩ := HZ.out
                                        intro hz
                                        apply hln
                                        unfold lessN
                                        simp only [Bool.or_eq_true, Bool.and_eq_true, decide_eq_true_eq]
                                        unfold firstE at h1
                                        by_cases h2 : z1 = 0
                                        · rw [if_neg (by omega)] at h1
                                          exact Or.inr ⟨by have := k2.1 h2; omega, k3.1 (by omega)⟩
                                        · rw [if_pos h2] at h1
                                          exact Or.inl (by have := k1.1 (by omega); omega)
                                      have hq : chIf (P x) (Q x) x (some m) = false := by rw [HP1.out, HQ1.out]; have hl9 := Bool.not_eq_true _ |>.mp hln; simp [chIf, hl9]
                                      clear hln
                                      have HN : Hid (some m = chTo P Q K ((onceL K).take (i + 1))) := by
                                        show _ = _
                                        rw [HST.out, ← HU.out]
                                        show _ = chS P Q K _ s; rw [HCS.out]; rw [if_neg (by rw [hq]; decide)]
                                      clear HST HU
                                      as_aux_lemma =>
                                        go_wp2_with fail
                                        go_roundw
                                        case rel => exact ⟨i + 1, some m, by omega, by go_num, rfl, rfl, HN.out, HML.out, HB9.out⟩
                                        case measure => simp [intOf]; omega
                            have hge : f1v ≥ f2v := by omega
                            have hq : chIf (P x) (Q x) x best = false := by rw [HP1.out, HQ1.out]; simp [chIf, hxy]
                            have HN : Hid (best = chTo P Q K ((onceL K).take (i + 1))) := by
                              show _ = _
                              rw [HST.out, ← HU.out]
                              show _ = chS P Q K _ s; rw [HCS.out]; rw [if_neg (by rw [hq]; decide)]
                            clear HST HU
                            as_aux_lemma =>
                              go_wp2_with fail
                              go_roundw
                              case rel => exact ⟨i + 1, best, by omega, by go_num, rfl, rfl, HN.out, HML.out, HB8.out⟩
                              case measure => simp [intOf]; omega
end Go.Proofs.YtacekbbndamkmaaGreatDoor

set_option linter.unusedVariables false
set_option linter.unusedSimpArgs false
namespace Go.Proofs.YtacekbbndamkmaaGreatDoor
open Go.RowKit

theorem rateFor_str (w : World) (ra : Option Addr) (rn rc : Nat) (cs : List Rate) (l : List UInt8) (s : ByteArray) (hs : s = ⟨l.toArray⟩) (hr : RateRow w ra rn cs) (hl : l.length ≤ 1000) :
    Calls Tryz.prog 53 #[.slice ra rn rc, .string s] w (RatePost (refTo cs l cs.length) w) := by
  subst hs
  exact rateFor_any w ra rn rc cs l hr hl
set_option maxRecDepth 100000 in
set_option maxHeartbeats 8000000 in
theorem rateForD_any (w : World) (df ds dl dp : Int) (ra : Option Addr) (rn rc : Nat) (cs : List Rate) (n : List UInt8) (hr : RateRow w ra rn cs) (hn1 : 1 ≤ n.length) (hn2 : n.length ≤ 1000) :
    Calls Tryz.prog 29 #[.agg #[.int .i64 df, .int .i64 ds, .int .i64 dl, .int .i64 dp, .slice ra rn rc], .string ⟨n.toArray⟩] w (RatePost (refTo cs (n.drop 1) cs.length) w) := by
  have hnd : (n.drop 1).length ≤ 1000 := by rw [List.length_drop]; omega
  have HPO : Hid (∀ W, Below w.heap.size w W → Calls Tryz.prog 53 #[.slice ra rn rc, .string ((⟨n.toArray⟩ : ByteArray).extract 1 n.length)] W (RatePost (refTo cs (n.drop 1) cs.length) W)) := fun W hW => rateFor_str W ra rn rc cs (n.drop 1) _ (extract_drop n 1) (hr.below hW) hnd
  have HFIN : Hid (∀ W, Below w.heap.size w W → RatePost (refTo cs (n.drop 1) cs.length) w (.returned (.tuple #[.agg #[.string ⟨((refTo cs (n.drop 1) cs.length).getD noRate).p.toArray⟩, .int .i64 ((refTo cs (n.drop 1) cs.length).getD noRate).price, .bool ((refTo cs (n.drop 1) cs.length).getD noRate).closed], .bool (refTo cs (n.drop 1) cs.length).isSome])) W) := fun W hW => ⟨hW, rfl⟩
  generalize hP : RatePost (refTo cs (n.drop 1) cs.length) w = PP at HFIN ⊢
  clear hP hnd hr
  generalize refTo cs (n.drop 1) cs.length = o at HPO HFIN
  go_enter Tryz.func29, Tryz.ntmps29
  go_upto_region 1 with (fail)
  have HD : Hid (Blk ((w.alloc (.cells #[.int .i64 df, .int .i64 ds, .int .i64 dl, .int .i64 dp, .slice ra rn rc] 28)).alloc (.cells #[.string ⟨#[]⟩, .int .i64 0, .bool false] 51)) w.heap.size [.int .i64 df, .int .i64 ds, .int .i64 dl, .int .i64 dp, .slice ra rn rc] 28) := (Blk.new w [.int .i64 df, .int .i64 ds, .int .i64 dl, .int .i64 dp, .slice ra rn rc] 28).alloc _
  have HZ : Hid (Blk ((w.alloc (.cells #[.int .i64 df, .int .i64 ds, .int .i64 dl, .int .i64 dp, .slice ra rn rc] 28)).alloc (.cells #[.string ⟨#[]⟩, .int .i64 0, .bool false] 51)) (w.heap.size + 1) [.string ⟨#[]⟩, .int .i64 0, .bool false] 51) := by
    have := Blk.new (w.alloc (.cells #[.int .i64 df, .int .i64 ds, .int .i64 dl, .int .i64 dp, .slice ra rn rc] 28)) [.string ⟨#[]⟩, .int .i64 0, .bool false] 51
    show Blk _ _ _ _
    simpa using this
  have HB : Hid (Below w.heap.size w ((w.alloc (.cells #[.int .i64 df, .int .i64 ds, .int .i64 dl, .int .i64 dp, .slice ra rn rc] 28)).alloc (.cells #[.string ⟨#[]⟩, .int .i64 0, .bool false] 51))) := ext_alloc (ext_alloc (Below.refl _ _))
  generalize World.alloc (World.alloc w _) _ = W at HD HZ HB ⊢
  have d4 := HD.out.cell 4 rfl
  go_region_with (go_at_call 53; refine (HPO.out _ (ext_drew HB.out)).mono ?_; rintro e w3 ⟨hb3, rfl⟩; have HZ3 := Lib.hid (HZ.out.below (ext_trans (ext_drew (Below.refl _ _)) hb3)); have z0 := HZ3.out.cell 0 rfl; have z1 := HZ3.out.cell 1 rfl; have z2 := HZ3.out.cell 2 rfl; have zF := HZ3.out.fr)
  all_goals
    have HF3 := Lib.hid (HFIN.out _ (rbox_far 0 (show w.heap.size ≤ w.heap.size + 1 by omega) (ext_trans (ext_drew HB.out) hb3) (.string ⟨(o.getD noRate).p.toArray⟩) (.int .i64 (o.getD noRate).price) (.bool (o.getD noRate).closed)))
    have HZ9 := HZ3.out.put3 (.string ⟨(o.getD noRate).p.toArray⟩) (.int .i64 (o.getD noRate).price) (.bool (o.getD noRate).closed)
    have r0 := HZ9.cell 0 rfl
    have r1 := HZ9.cell 1 rfl
    have r2 := HZ9.cell 2 rfl
    clear HFIN hb3 HZ9
    go_wp2_with fail
    refine bodyPost_ret (by simp [results, Tryz.results29, go_sem, r0, r1, r2]) rfl HF3.out
theorem paid_step {p dp talk : Int} (h1 : 1 ≤ dp) (h : p < talk) : paidR (p + dp) dp talk = paidR p dp talk := by
  unfold paidR
  rw [if_pos h]
  by_cases h2 : p + dp < talk
  · rw [if_pos h2]
    rw [show talk - p + dp - 1 = (talk - (p + dp) + dp - 1) + 1 * dp by omega, Int.add_mul_ediv_right _ _ (by omega), Int.add_mul]
    omega
  · rw [if_neg h2]
    have h3 : (talk - p + dp - 1) / dp = 1 := by
      rw [show talk - p + dp - 1 = (talk - p - 1) + 1 * dp by omega, Int.add_mul_ediv_right _ _ (by omega), Int.ediv_eq_zero_of_lt (by omega) (by omega)]
      rfl
    rw [h3]; omega
set_option maxRecDepth 100000 in
set_option maxHeartbeats 8000000 in
theorem priceFor_any (w : World) (df ds dl dp : Int) (ra : Option Addr) (rn rc : Nat) (cs : List Rate) (n : List UInt8) (talk : Int) (hr : RateRow w ra rn cs) (hg : DeckGood ds dl dp cs) (hn1 : 1 ≤ n.length) (hn2 : n.length ≤ 16) (h5 : 0 ≤ talk ∧ talk ≤ 86400000) :
    Calls Tryz.prog 30 #[.agg #[.int .i64 df, .int .i64 ds, .int .i64 dl, .int .i64 dp, .slice ra rn rc], .string ⟨n.toArray⟩, .int .i64 talk] w (PriceOfPost (priceV ds dl dp cs (n.drop 1) talk) w) := by
  obtain ⟨h1, h2, h3, ho, he⟩ := hg
  have HR := Lib.hid (rateForD_any (w.alloc (.cells #[.int .i64 df, .int .i64 ds, .int .i64 dl, .int .i64 dp, .slice ra rn rc] 28)) df ds dl dp ra rn rc cs n (hr.below (ext_alloc (Below.refl _ _))) hn1 (by omega))
  rw [ref_same ho (by rw [List.length_drop]; omega)] at HR
  have HV : Hid (priceV ds dl dp cs (n.drop 1) talk = match rateOf cs (n.drop 1) 15 with | none => (0, false) | some r => if r.closed = true then (0, false) else (priceR ds dl dp r.price talk, true)) := rfl
  have HM : Hid (∀ r, rateOf cs (n.drop 1) 15 = some r → 0 ≤ r.price ∧ r.price ≤ 100000000) := fun r h => he r (rateTo_mem _ h)
  generalize priceV ds dl dp cs (n.drop 1) talk = V at HV ⊢
  generalize rateOf cs (n.drop 1) 15 = o at HV HR HM
  clear hr ho he
  go_enter Tryz.func30, Tryz.ntmps30
  go_upto_region 1 with (fail)
  have HD : Hid (Blk (w.alloc (.cells #[.int .i64 df, .int .i64 ds, .int .i64 dl, .int .i64 dp, .slice ra rn rc] 28)) w.heap.size [.int .i64 df, .int .i64 ds, .int .i64 dl, .int .i64 dp, .slice ra rn rc] 28) := Blk.new w [.int .i64 df, .int .i64 ds, .int .i64 dl, .int .i64 dp, .slice ra rn rc] 28
  have HB : Hid (Below w.heap.size w (w.alloc (.cells #[.int .i64 df, .int .i64 ds, .int .i64 dl, .int .i64 dp, .slice ra rn rc] 28))) := ext_alloc (Below.refl _ _)
  have hsz : w.heap.size < (w.alloc (.cells #[.int .i64 df, .int .i64 ds, .int .i64 dl, .int .i64 dp, .slice ra rn rc] 28)).heap.size := by simp
  generalize w.alloc _ = W at HD HB HR hsz ⊢
  have HRA : Hid (W.rangeAt w.heap.size 0 [.int .i64 df, .int .i64 ds, .int .i64 dl, .int .i64 dp, .slice ra rn rc]) := fun j v hj => by rw [Nat.zero_add]; exact HD.out.cell j hj
  as_aux_lemma =>
    go_wp2_with (refine wpList_load_mid rfl 28 (.tmp 3) rfl w.heap.size 0 rfl [.int .i64 df, .int .i64 ds, .int .i64 dl, .int .i64 dp, .slice ra rn rc] _ HRA.out Tryz.underlying28 rfl Tryz.deckSz ?_)
    refine HR.out.mono ?_
    rintro e w1 ⟨hb1, rfl⟩
    have HB1 := Lib.hid (ext_trans HB.out hb1)
    have HD1 := Lib.hid (HD.out.below hb1)
    have hz1 : w.heap.size < w1.heap.size := by have := hb1.size; omega
    clear hb1 HB HD HRA HR hsz
    cases o with
    | none =>
      obtain rfl : V = (0, false) := HV.out
      clear HV HM
      as_aux_lemma =>
        go_wp2_with fail
        go_ret2
        exact ⟨rfl, (by (try show Below _ _ _); repeat (with_reducible first | exact Below.refl _ _ | assumption | exact Hid.out (by assumption) | refine ext_alloc ?_ | refine ext_drewN ?_ | refine ext_drew ?_ | refine ext_setCell ?_ (Nat.le_refl _) | refine ext_setCell ?_ (Nat.le_succ _) | refine ext_trans ?_ (by assumption) | (refine ext_setCell ?_ (by simp)) | (refine ext_setCell ?_ (by simp at *; omega))))⟩
    | some r =>
      obtain ⟨rp, pr, cl⟩ := r
      obtain ⟨h40, h41⟩ := HM.out _ rfl
      clear HM
      simp only [Option.getD_some, Option.isSome_some] at h40 h41 ⊢
      cases cl with
      | true =>
        obtain rfl : V = (0, false) := HV.out
        clear HV
        as_aux_lemma =>
          go_wp2_with fail
          go_ret2
          exact ⟨rfl, (by (try show Below _ _ _); repeat (with_reducible first | exact Below.refl _ _ | assumption | exact Hid.out (by assumption) | refine ext_alloc ?_ | refine ext_drewN ?_ | refine ext_drew ?_ | refine ext_setCell ?_ (Nat.le_refl _) | refine ext_setCell ?_ (Nat.le_succ _) | refine ext_trans ?_ (by assumption) | (refine ext_setCell ?_ (by simp)) | (refine ext_setCell ?_ (by simp at *; omega))))⟩
      | false =>
        obtain rfl : V = (priceR ds dl dp pr talk, true) := HV.out
        clear HV
        have HPR : Hid (priceR ds dl dp pr talk = if talk = 0 then ds else ds + (pr * paidR dl dp talk + 59999) / 60000) := rfl
        have d1 := HD1.out.cell 1 rfl
        have d2 := HD1.out.cell 2 rfl
        have d3 := HD1.out.cell 3 rfl
        have hne : w.heap.size ≠ w1.heap.size := by omega
        have hne2 : w1.heap.size ≠ w.heap.size := by omega
        by_cases ht : talk = 0
        · have ht2 : (talk == 0) = true := by simpa using ht
          have HF : Hid (priceR ds dl dp pr talk = ds) := by show _ = ds; rw [HPR.out, if_pos ht]
          clear HPR ht h5
          as_aux_lemma =>
            go_wp2_with fail
            go_ret2
            exact ⟨by rw [HF.out]; rfl, by have HB1 := HB1.out; exact (by (try show Below _ _ _); repeat (with_reducible first | exact Below.refl _ _ | assumption | exact Hid.out (by assumption) | refine ext_alloc ?_ | refine ext_drewN ?_ | refine ext_drew ?_ | refine ext_setCell ?_ (Nat.le_refl _) | refine ext_setCell ?_ (Nat.le_succ _) | refine ext_trans ?_ (by assumption) | (refine ext_setCell ?_ (by simp)) | (refine ext_setCell ?_ (by simp at *; omega))))⟩
        have ht2 : (talk == 0) = false := by simpa using ht
        have HF : Hid (priceR ds dl dp pr talk = ds + (pr * paidR dl dp talk + 59999) / 60000) := by show _ = _; rw [HPR.out, if_neg ht]
        have hpb := paid_bound h2 h3 h5
        clear HPR ht
        skip
        as_aux_lemma =>
          go_upto_region 6 with (fail)
          have HX : Hid (Blk (w1.alloc (.cells #[.string ⟨rp.toArray⟩, .int .i64 pr, .bool false] 51)) w1.heap.size [.string ⟨rp.toArray⟩, .int .i64 pr, .bool false] 51) := Blk.new w1 [.string ⟨rp.toArray⟩, .int .i64 pr, .bool false] 51
          have HDA := Lib.hid (HD1.out.alloc (.cells #[.string ⟨rp.toArray⟩, .int .i64 pr, .bool false] 51))
          have HBA : Hid (Below w.heap.size w (w1.alloc (.cells #[.string ⟨rp.toArray⟩, .int .i64 pr, .bool false] 51))) := ext_alloc HB1.out
          generalize w1.alloc (.cells #[.string ⟨rp.toArray⟩, .int .i64 pr, .bool false] 51) = wa at HX HDA HBA ⊢
          generalize w1.heap.size = X at HX hne hne2 hz1 ⊢
          clear d1 d2 d3 HD1 HB1
          have d1 := HDA.out.cell 1 rfl
          have d2 := HDA.out.cell 2 rfl
          have d3 := HDA.out.cell 3 rfl
          have x1 := HX.out.cell 1 rfl
          go_wp2_with fail
          go_loopw [10] (fun v10 wr => ∃ p : Int, v10 = .int .i64 p ∧ 0 ≤ p ∧ p ≤ 300000000 ∧ Hid (paidR p dp talk = paidR dl dp talk) ∧ Hid (wr = wa)) (fun v10 _ => (talk - intOf v10).toNat)
          case atStart => exact ⟨dl, rfl, h2.1, by omega, rfl, rfl⟩
          case round =>
            obtain ⟨p, rfl, p0, p1, HP, HW⟩ := hrel
            obtain rfl := HW.out
            clear HW
            by_cases hlt : p < talk
            · by_cases hst : 1000000 < dp
              · have wp1 : IntKind.i64.wrap (p + dp) = p + dp := IntWalk.i64_in _ (by omega)
                as_aux_lemma =>
                  go_wp2_with fail
                  go_roundw
                  case rel => exact ⟨p + dp, rfl, by omega, by omega, by show _ = _; rw [paid_step h3.1 hlt]; exact HP.out, by first | exact rfl | exact Lib.hid trivial⟩
                  case measure => simp [intOf]; omega
              · have hM : Hid (p + upD (talk - p) dp * dp = paidR dl dp talk) := by
                  show _ = _
                  rw [← HP.out]; unfold paidR; rw [if_pos hlt]; rfl
                have q0 : 0 ≤ upD (talk - p) dp := Int.ediv_nonneg (by omega) (by omega)
                have q1 : upD (talk - p) dp * dp ≤ talk - p + dp - 1 := Int.ediv_mul_le _ (by omega)
                have q2 : 0 ≤ upD (talk - p) dp * dp := Int.mul_nonneg q0 (by omega)
                have HU := Lib.hid (fun W => upward_any (talk - p) dp ⟨by omega, by omega⟩ ⟨by omega, by omega⟩ W)
                generalize upD (talk - p) dp = U at hM q0 q1 q2 HU
                have v1 : IntKind.i64.wrap (talk - p) = talk - p := IntWalk.i64_in _ (by omega)
                have v2 : IntKind.i64.wrap (U * dp) = U * dp := IntWalk.i64_in _ (by omega)
                have v3 : IntKind.i64.wrap (p + U * dp) = p + U * dp := IntWalk.i64_in _ (by omega)
                clear q0 q1 q2 HP
                as_aux_lemma =>
                  go_upto_region 9 with (fail)
                  go_upto_if 43 with (fail)
                  go_cut [10] (fun v wx => v = .int .i64 (paidR dl dp talk) ∧ Hid (Blk wx w.heap.size [.int .i64 df, .int .i64 ds, .int .i64 dl, .int .i64 dp, .slice ra rn rc] 28) ∧ Hid (Blk wx X [.string ⟨rp.toArray⟩, .int .i64 pr, .bool false] 51) ∧ Hid (Below w.heap.size w wx))
                  case first =>
                    go_wp2_with fail
                    go_quiet (first | (go_at_call 63; refine Calls.quiet_of_same (v := .int .i64 U) ((HU.out _).mono ?_); rintro e w' ⟨rfl, rfl⟩; exact ⟨rfl, rfl⟩))
                    go_wp2_with fail
                    go_meet
                    exact ⟨by rw [hM.out], HDA.out.below (ext_drewN (Below.refl _ _)), HX.out.below (ext_drewN (Below.refl _ _)), ext_drewN HBA.out⟩
                  case rest =>
                    clear d1 d2 d3 x1 HU v1 v2 v3 hM
                    obtain ⟨rfl, HDC, HXC, HBC⟩ := hcut
                    have d1 := HDC.out.cell 1 rfl
                    have x1 := HXC.out.cell 1 rfl
                    have m0 : 0 ≤ pr * paidR dl dp talk := Int.mul_nonneg h40 hpb.1
                    have m1 : pr * paidR dl dp talk ≤ 100000000 * 200000000 := Int.mul_le_mul h41 hpb.2 hpb.1 (by omega)
                    have HU2 := Lib.hid (fun W => upward_any (pr * paidR dl dp talk) 60000 ⟨m0, by omega⟩ ⟨by omega, by omega⟩ W)
                    have HQ : Hid (upD (pr * paidR dl dp talk) 60000 = (pr * paidR dl dp talk + 59999) / 60000) := by show (_ + 60000 - 1) / 60000 = _; congr 1; omega
                    rw [HQ.out] at HU2
                    have v4 : IntKind.i64.wrap (pr * paidR dl dp talk) = pr * paidR dl dp talk := IntWalk.i64_in _ (by omega)
                    have v5 : IntKind.i64.wrap (ds + (pr * paidR dl dp talk + 59999) / 60000) = ds + (pr * paidR dl dp talk + 59999) / 60000 := IntWalk.i64_in _ (by omega)
                    clear m0 m1 hpb HQ h41 h40 HDC HXC
                    generalize (pr * paidR dl dp talk + 59999) / 60000 = Y at HU2 v5 HF
                    as_aux_lemma =>
                      go_wp2_with fail
                      go_region_with (go_at_call 63; refine (HU2.out _).mono ?_; rintro e w' ⟨rfl, rfl⟩)
                      all_goals
                        go_wp2_with fail
                        go_ret2
                        exact ⟨by rw [HF.out]; rfl, by have HBC := HBC.out; exact (by (try show Below _ _ _); repeat (with_reducible first | exact Below.refl _ _ | assumption | exact Hid.out (by assumption) | refine ext_alloc ?_ | refine ext_drewN ?_ | refine ext_drew ?_ | refine ext_setCell ?_ (Nat.le_refl _) | refine ext_setCell ?_ (Nat.le_succ _) | refine ext_trans ?_ (by assumption) | (refine ext_setCell ?_ (by simp)) | (refine ext_setCell ?_ (by simp at *; omega))))⟩
            · have hM : Hid (p = paidR dl dp talk) := by
                show p = _
                rw [← HP.out]; unfold paidR; rw [if_neg hlt]
              clear HP
              as_aux_lemma =>
                go_upto_region 9 with (fail)
                go_upto_if 43 with (fail)
                go_cut [10] (fun v wx => v = .int .i64 (paidR dl dp talk) ∧ Hid (Blk wx w.heap.size [.int .i64 df, .int .i64 ds, .int .i64 dl, .int .i64 dp, .slice ra rn rc] 28) ∧ Hid (Blk wx X [.string ⟨rp.toArray⟩, .int .i64 pr, .bool false] 51) ∧ Hid (Below w.heap.size w wx))
                case first =>
                  go_wp2_with fail
                  go_meet
                  exact ⟨by rw [← hM.out], HDA.out, HX.out, HBA.out⟩
                case rest =>
                  clear d1 d2 d3 x1 hM
                  obtain ⟨rfl, HDC, HXC, HBC⟩ := hcut
                  have d1 := HDC.out.cell 1 rfl
                  have x1 := HXC.out.cell 1 rfl
                  have m0 : 0 ≤ pr * paidR dl dp talk := Int.mul_nonneg h40 hpb.1
                  have m1 : pr * paidR dl dp talk ≤ 100000000 * 200000000 := Int.mul_le_mul h41 hpb.2 hpb.1 (by omega)
                  have HU2 := Lib.hid (fun W => upward_any (pr * paidR dl dp talk) 60000 ⟨m0, by omega⟩ ⟨by omega, by omega⟩ W)
                  have HQ : Hid (upD (pr * paidR dl dp talk) 60000 = (pr * paidR dl dp talk + 59999) / 60000) := by show (_ + 60000 - 1) / 60000 = _; congr 1; omega
                  rw [HQ.out] at HU2
                  have v4 : IntKind.i64.wrap (pr * paidR dl dp talk) = pr * paidR dl dp talk := IntWalk.i64_in _ (by omega)
                  have v5 : IntKind.i64.wrap (ds + (pr * paidR dl dp talk + 59999) / 60000) = ds + (pr * paidR dl dp talk + 59999) / 60000 := IntWalk.i64_in _ (by omega)
                  clear m0 m1 hpb HQ h41 h40 HDC HXC
                  generalize (pr * paidR dl dp talk + 59999) / 60000 = Y at HU2 v5 HF
                  as_aux_lemma =>
                    go_wp2_with fail
                    go_region_with (go_at_call 63; refine (HU2.out _).mono ?_; rintro e w' ⟨rfl, rfl⟩)
                    all_goals
                      go_wp2_with fail
                      go_ret2
                      exact ⟨by rw [HF.out]; rfl, by have HBC := HBC.out; exact (by (try show Below _ _ _); repeat (with_reducible first | exact Below.refl _ _ | assumption | exact Hid.out (by assumption) | refine ext_alloc ?_ | refine ext_drewN ?_ | refine ext_drew ?_ | refine ext_setCell ?_ (Nat.le_refl _) | refine ext_setCell ?_ (Nat.le_succ _) | refine ext_trans ?_ (by assumption) | (refine ext_setCell ?_ (by simp)) | (refine ext_setCell ?_ (by simp at *; omega))))⟩
end Go.Proofs.YtacekbbndamkmaaGreatDoor

set_option linter.unusedVariables false
set_option linter.unusedSimpArgs false
namespace Go.Proofs.YtacekbbndamkmaaGreatDoor
open Go.RowKit
open Go.Maps

theorem less_plus (x y : List UInt8) : Op.bytesLess (43 :: x) (43 :: y) = Op.bytesLess x y := by
  rw [less_cons]; simp
theorem bl_dcn0 (e : Operand → Value) (he : ∀ v, e (.const v) = v) (o : Oper) (w : World) (i0 : Nat) (i1 : Nat) (a0 : Option Addr) (n0 : Nat) (m0 : Nat) (a1 : Option Addr) (n1 : Nat) (m1 : Nat) (ho : o.op = .buildSlice 127 2 #[(0, .tmp i0), (1, .tmp i1)]) (h0 : e (.tmp i0) = .slice a0 n0 m0) (h1 : e (.tmp i1) = .slice a1 n1 m1) :
   (execOp e o).run Tryz.prog w = .ok (.value (.slice (some ⟨w.heap.size, 0, none⟩) 2 2)) (w.alloc (.cells #[.slice a0 n0 m0, .slice a1 n1 m1] 26)) := by
  unfold execOp
  rw [ho]
  simp only [List.map_toArray, List.map_cons, List.map_nil, h0, h1]
  kernel_rfl
set_option maxRecDepth 100000 in
set_option maxHeartbeats 8000000 in
theorem cheaperNumber_any (w : World) (a b : Deck) (ha : DeckFine w a) (hb : DeckFine w b) (hE : deckErr a = 0 ∧ deckErr b = 0) (talk : Int) (htk : 0 ≤ talk ∧ talk ≤ 86400000) : Calls Tryz.prog 17 #[.agg a.cells.toArray, .agg b.cells.toArray, .int .i64 talk] w (DecPost (cheapV a b talk) w) := by
  have HCV : Hid (cheapV a b talk = chTo (priceD a talk) (priceD b talk) (a.rates.map (·.p) ++ b.rates.map (·.p)) (onceL (a.rates.map (·.p) ++ b.rates.map (·.p)))) := rfl
  generalize cheapV a b talk = R at HCV ⊢
  have HP2 := Lib.hid (preTwo ha hb)
  have HPA : Hid (∀ W, Below w.heap.size w W → RatesAt (W.alloc (.cells #[.slice a.ra a.rn a.rc, .slice b.ra b.rn b.rc] 26)) W.heap.size 2 [a, b]) := fun W hW => pair_rates (ha.below hW) (hb.below hW)
  have HPT : Hid (prefK [a, b] = a.rates.map (·.p) ++ b.rates.map (·.p)) := pre_two a b
  have hgd1 := deck_good (Nat.le_trans (by rw [← ha.row.len]; exact ha.row.few) (by decide)) hE.1
  have hgd2 := deck_good (Nat.le_trans (by rw [← hb.row.len]; exact hb.row.few) (by decide)) hE.2
  have HSA2 := Lib.hid hgd1.sorted
  have HSB2 := Lib.hid hgd2.sorted
  have HRA := Lib.hid ha.row
  have HRB := Lib.hid hb.row
  have HGA := Lib.hid hgd1
  have HGB := Lib.hid hgd2
  have H15 : Hid (∀ i, ((onceL (a.rates.map (·.p) ++ b.rates.map (·.p))).getD i []).length ≤ 15) := short15 (deck_more (Nat.le_trans (by rw [← ha.row.len]; exact ha.row.few) (by decide)) hE.1) (deck_more (Nat.le_trans (by rw [← hb.row.len]; exact hb.row.few) (by decide)) hE.2)
  have HTK := Lib.hid htk
  clear htk
  clear ha hb hE hgd1 hgd2
  obtain ⟨gf, gs, gl, gp, ga, gn, gc, grs⟩ := a
  obtain ⟨kf, ks, kl, kp, ka, kn, kc, krs⟩ := b
  have HPA2 : Hid (∀ W, Below w.heap.size w W → RatesAt (W.alloc (.cells #[.slice ga gn gc, .slice ka kn kc] 26)) W.heap.size 2 [(⟨gf, gs, gl, gp, ga, gn, gc, grs⟩ : Deck), (⟨kf, ks, kl, kp, ka, kn, kc, krs⟩ : Deck)]) := HPA.out
  show Calls Tryz.prog 17 #[.agg #[.int .i64 gf, .int .i64 gs, .int .i64 gl, .int .i64 gp, .slice ga gn gc], .agg #[.int .i64 kf, .int .i64 ks, .int .i64 kl, .int .i64 kp, .slice ka kn kc], .int .i64 talk] w _
  simp only at HPT HSA2 HSB2 HRA HRB HP2 ⊢
  clear HPA
  have HPD : Hid (priceD (⟨gf, gs, gl, gp, ga, gn, gc, grs⟩ : Deck) talk = fun n => priceV gs gl gp grs n talk) := rfl
  have HQD : Hid (priceD (⟨kf, ks, kl, kp, ka, kn, kc, krs⟩ : Deck) talk = fun n => priceV ks kl kp krs n talk) := rfl
  generalize priceD (⟨gf, gs, gl, gp, ga, gn, gc, grs⟩ : Deck) talk = P at HPD HCV
  generalize priceD (⟨kf, ks, kl, kp, ka, kn, kc, krs⟩ : Deck) talk = Q at HQD HCV
  simp only at HGA HGB HCV H15
  have HDV := HCV
  clear HCV
  generalize grs.map (·.p) ++ krs.map (·.p) = K at HPT HP2 HDV H15
  have HX : Hid (Blk ((w.alloc (.cells #[.int .i64 gf, .int .i64 gs, .int .i64 gl, .int .i64 gp, .slice ga gn gc] 28)).alloc (.cells #[.int .i64 kf, .int .i64 ks, .int .i64 kl, .int .i64 kp, .slice ka kn kc] 28)) w.heap.size [.int .i64 gf, .int .i64 gs, .int .i64 gl, .int .i64 gp, .slice ga gn gc] 28) := (Blk.new w _ _).alloc _
  have HY : Hid (Blk ((w.alloc (.cells #[.int .i64 gf, .int .i64 gs, .int .i64 gl, .int .i64 gp, .slice ga gn gc] 28)).alloc (.cells #[.int .i64 kf, .int .i64 ks, .int .i64 kl, .int .i64 kp, .slice ka kn kc] 28)) (w.heap.size + 1) [.int .i64 kf, .int .i64 ks, .int .i64 kl, .int .i64 kp, .slice ka kn kc] 28) := by
    have := Blk.new (w.alloc (.cells #[.int .i64 gf, .int .i64 gs, .int .i64 gl, .int .i64 gp, .slice ga gn gc] 28)) [.int .i64 kf, .int .i64 ks, .int .i64 kl, .int .i64 kp, .slice ka kn kc] 28
    rw [show (w.alloc (.cells #[.int .i64 gf, .int .i64 gs, .int .i64 gl, .int .i64 gp, .slice ga gn gc] 28)).heap.size = w.heap.size + 1 by simp] at this
    exact this
  have HA : Hid (Below w.heap.size w ((w.alloc (.cells #[.int .i64 gf, .int .i64 gs, .int .i64 gl, .int .i64 gp, .slice ga gn gc] 28)).alloc (.cells #[.int .i64 kf, .int .i64 ks, .int .i64 kl, .int .i64 kp, .slice ka kn kc] 28))) := ext_alloc (ext_alloc (Below.refl _ _))
  go_enter Tryz.func17, Tryz.ntmps17
  as_aux_lemma =>
    go_upto_region 1 with (fail)
    generalize World.alloc (World.alloc w _) _ = w1 at HX HY HA ⊢
    obtain ⟨Y, hY⟩ : ∃ Y, Y = w.heap.size + 1 := ⟨_, rfl⟩
    obtain ⟨X, hX⟩ : ∃ X, X = w.heap.size := ⟨_, rfl⟩
    rw [← hY] at HY
    rw [← hX] at HX
    simp only [← hY]
    simp only [← hX]
    clear hX hY
    have x0 := HX.out.cell 0 rfl
    have x1 := HX.out.cell 1 rfl
    have x2 := HX.out.cell 2 rfl
    have x3 := HX.out.cell 3 rfl
    have x4 := HX.out.cell 4 rfl
    have y0 := HY.out.cell 0 rfl
    have y1 := HY.out.cell 1 rfl
    have y2 := HY.out.cell 2 rfl
    have y3 := HY.out.cell 3 rfl
    have y4 := HY.out.cell 4 rfl
    have hA : Below w1.heap.size w1 (w1.alloc (.cells #[.slice ga gn gc, .slice ka kn kc] 26)) := ext_alloc (Below.refl _ _)
    have HX3 := Lib.hid (HX.out.below hA)
    have HY3 := Lib.hid (HY.out.below hA)
    have HB3 := Lib.hid (ext_trans HA.out hA)
    have HPR := Lib.hid (prefixesR_any _ _ 2 2 _ (HPA2.out w1 HA.out))
    rw [HPT.out] at HPR
    clear hA HX HY HA HPA2 HPT
    as_aux_lemma =>
      go_wp2_with (first | (refine wpList_val rfl (bl_dcn0 _ (fun _ => rfl) _ _ 17 19 ga gn gc ka kn kc rfl rfl rfl) ?_))
      generalize w1.alloc (.cells #[.slice ga gn gc, .slice ka kn kc] 26) = w3 at HX3 HY3 HB3 HPR ⊢
      generalize w1.heap.size = V2 at HPR ⊢
      clear x0 x1 x2 x3 x4 y0 y1 y2 y3 y4
      refine HPR.out.mono ?_
      rintro e w5 ⟨v5, rfl, ho5, hb5⟩
      obtain ⟨va, vc, rfl⟩ := own_shape ho5
      have HO5 := Lib.hid ho5
      have HX5 := Lib.hid (HX3.out.below hb5)
      have HY5 := Lib.hid (HY3.out.below hb5)
      have HB5 := Lib.hid (ext_trans HB3.out hb5)
      have hkl := once_len K
      have hk2 := HP2.out.few
      generalize w3.heap.size = W4 at HO5
      clear ho5 hb5 HPR HX3 HY3 HB3
      as_aux_lemma =>
        go_wp2_with fail
        go_loopw [8, 24] (fun vb it wr => ∃ (i : Nat) (best : Option (List UInt8)), i ≤ (onceL K).length ∧ it = .int .i64 i ∧ vb = .string ⟨(decS best).toArray⟩ ∧ Hid (best = chTo P Q K ((onceL K).take i)) ∧ Hid (∀ m, best = some m → m.length ≤ 15) ∧ Hid (Below w5.heap.size w5 wr)) (fun _ it _ => (onceL K).length - (intOf it).toNat)
        case atStart => exact ⟨0, none, Nat.zero_le _, rfl, rfl, rfl, (fun m h => by cases h), Below.refl _ _⟩
        case round =>
          obtain ⟨i, best, hin, rfl, rfl, HU, HML, HB⟩ := hrel
          by_cases hlt : i < (onceL K).length
          case neg =>
            have hii : i = (onceL K).length := by omega
            have HE : Hid (DecPost R w (.returned (.string ⟨(decS best).toArray⟩)) wr) := by
              have e : best = R := by rw [HDV.out, HU.out, hii, List.take_length]
              rw [← e]
              exact ⟨rfl, ext_trans HB5.out HB.out⟩
            have hnn : ¬ (i : Int) < ((onceL K).length : Int) := by omega
            clear HU HML HB HDV HX5 HY5 HO5 HB5 HPD HQD HGA HGB H15
            generalize decS best = bs at HE ⊢
            as_aux_lemma =>
              go_wp2_with fail
              go_ret
              exact HE.out
          generalize hbs : decS best = bs
          have HBS := Lib.hid hbs
          clear hbs
          have hlti : (i : Int) < ((onceL K).length : Int) := by omega
          have HOL := Lib.hid (own_keep HO5.out HB.out)
          obtain ⟨g, rfl, hg0, hg1⟩ := own_pos HOL.out (by omega)
          have c0 : wr.cell? ⟨g, i, none⟩ = some (.string ⟨((onceL K).getD i []).toArray⟩) := by
            have h9 := HOL.out.cellAt i (by omega)
            rw [h9]
            simp [encS, List.getD_eq_getElem?_getD, hlt]
          have hsl := HP2.out.at_ i
          have hsl15 := H15.out i
          have HST : Hid (chTo P Q K ((onceL K).take (i + 1)) = chS P Q K (chTo P Q K ((onceL K).take i)) ((onceL K).getD i [])) := chTo_step P Q K _ i hlt
          generalize (onceL K).getD i [] = s at c0 hsl hsl15 HST
          have HDE : Hid (∀ W, Below w5.heap.size w5 W → Calls Tryz.prog 54 #[.string ⟨s.toArray⟩, .slice (some ⟨g, 0, none⟩) (onceL K).length vc] W (DecPost (leastV K s) W)) := fun W hW => by
            rw [← dec_once K s]
            exact decided_any W W4 (onceL K).length _ (onceL K) (own_keep HO5.out hW) (by omega) s hsl
          have HLL : Hid (∀ x, leastV K s = some x → x.length ≤ 15) := fun x h => leastV_len h hsl15
          have HCS : Hid (∀ b9, chS P Q K b9 s = match leastV K s with
            | none => b9
            | some n => if chIf (P n) (Q n) n b9 = true then some n else b9) := fun b9 => rfl
          generalize leastV K s = o at HDE HLL HCS
          clear HOL
          as_aux_lemma =>
            go_wp2_with fail
            refine (HDE.out wr HB.out).mono ?_
            rintro e w6 ⟨rfl, hb6⟩
            have HB6 := Lib.hid (ext_trans HB.out hb6)
            clear HDE hb6 HB c0
            cases o with
            | none =>
              simp only [decS]
              have HN : Hid (best = chTo P Q K ((onceL K).take (i + 1))) := by
                show _ = _
                rw [HST.out, ← HU.out]
                exact (HCS.out best).symm
              clear HST HU
              as_aux_lemma =>
                go_wp2_with fail
                go_roundw
                case rel => exact ⟨i + 1, best, by omega, by go_num, by rw [HBS.out], HN.out, HML.out, HB6.out⟩
                case measure => simp [intOf]; omega
            | some x =>
              simp only [decS]
              have HXL : Hid (∀ m, some x = some m → m.length ≤ 15) := fun m h => by injection h with h; rw [← h]; exact HLL.out x rfl
              have hxl := HLL.out x rfl
              have HCS2 : Hid (∀ b9, chS P Q K b9 s = if chIf (P x) (Q x) x b9 = true then some x else b9) := HCS.out
              have HPX : Hid (P x = priceV gs gl gp grs x talk) := by show _ = _; rw [HPD.out]
              have HQX : Hid (Q x = priceV ks kl kp krs x talk) := by show _ = _; rw [HQD.out]
              have HR1 : Hid (∀ W, Below w5.heap.size w5 W → Calls Tryz.prog 30 #[.agg #[.int .i64 gf, .int .i64 gs, .int .i64 gl, .int .i64 gp, .slice ga gn gc], .string ⟨(43 :: x).toArray⟩, .int .i64 talk] W (PriceOfPost (P x) W)) := fun W hW => by
                rw [HPX.out]
                exact priceFor_any W gf gs gl gp ga gn gc grs (43 :: x) talk (HRA.out.below (ext_trans HB5.out hW)) HGA.out (by simp) (by simp; omega) HTK.out
              have HR2 : Hid (∀ W, Below w5.heap.size w5 W → Calls Tryz.prog 30 #[.agg #[.int .i64 kf, .int .i64 ks, .int .i64 kl, .int .i64 kp, .slice ka kn kc], .string ⟨(43 :: x).toArray⟩, .int .i64 talk] W (PriceOfPost (Q x) W)) := fun W hW => by
                rw [HQX.out]
                exact priceFor_any W kf ks kl kp ka kn kc krs (43 :: x) talk (HRB.out.below (ext_trans HB5.out hW)) HGB.out (by simp) (by simp; omega) HTK.out
              clear HCS
              have HCS := HCS2
              clear HCS2 HPX HQX HLL
              have HX6 := Lib.hid (HX5.out.below HB6.out)
              have HY6 := Lib.hid (HY5.out.below HB6.out)
              have x0 := HX6.out.cell 0 rfl
              have x1 := HX6.out.cell 1 rfl
              have x2 := HX6.out.cell 2 rfl
              have x3 := HX6.out.cell 3 rfl
              have x4 := HX6.out.cell 4 rfl
              as_aux_lemma =>
                go_wp2_with fail
                refine (HR1.out w6 HB6.out).mono ?_
                rcases hpx : P x with ⟨f1v, f1⟩
                rintro e w7 ⟨rfl, hb7⟩
                have HP1 := Lib.hid hpx
                clear hpx HR1 x0 x1 x2 x3 x4
                have HY7 := Lib.hid (HY6.out.below hb7)
                have HB7 := Lib.hid (ext_trans HB6.out hb7)
                clear hb7 HB6 HX6 HY6
                simp only
                have y0 := HY7.out.cell 0 rfl
                have y1 := HY7.out.cell 1 rfl
                have y2 := HY7.out.cell 2 rfl
                have y3 := HY7.out.cell 3 rfl
                have y4 := HY7.out.cell 4 rfl
                as_aux_lemma =>
                  go_wp2_with fail
                  refine (HR2.out w7 HB7.out).mono ?_
                  rcases hqx : Q x with ⟨f2v, f2⟩
                  rintro e w8 ⟨rfl, hb8⟩
                  have HQ1 := Lib.hid hqx
                  have HB8 := Lib.hid (ext_trans HB7.out hb8)
                  clear hqx HR2 y0 y1 y2 y3 y4 hb8 HB7 HY7
                  simp only
                  cases f1 with
                  | false =>
                    have hq : chIf (P x) (Q x) x best = false := by rw [HP1.out]; rfl
                    have HN : Hid (best = chTo P Q K ((onceL K).take (i + 1))) := by
                      show _ = _
                      rw [HST.out, ← HU.out]
                      show _ = chS P Q K _ s; rw [HCS.out]; rw [if_neg (by rw [hq]; decide)]
                    clear HST HU
                    as_aux_lemma =>
                      go_wp2_with fail
                      go_roundw
                      case rel => exact ⟨i + 1, best, by omega, by go_num, by rw [HBS.out], HN.out, HML.out, HB8.out⟩
                      case measure => simp [intOf]; omega
                  | true =>
                    cases f2 with
                    | false =>
                      cases best with
                      | none =>
                        have hq : chIf (P x) (Q x) x none = true := by rw [HP1.out, HQ1.out]; rfl
                        have hbe : bs = [] := HBS.out.symm
                        subst hbe
                        have HN : Hid (some x = chTo P Q K ((onceL K).take (i + 1))) := by
                          show _ = _
                          rw [HST.out, ← HU.out]
                          show _ = chS P Q K _ s; rw [HCS.out]; rw [if_pos hq]
                        clear HST HU
                        as_aux_lemma =>
                          go_wp2_with fail
                          go_roundw
                          case rel => exact ⟨i + 1, some x, by omega, by go_num, rfl, HN.out, HXL.out, HB8.out⟩
                          case measure => simp [intOf]; omega
                      | some m =>
                        have hml := HML.out m rfl
                        have hbe : bs = 43 :: m := HBS.out.symm
                        subst hbe
                        have hlp := less_plus x m
                        rcases Nat.lt_trichotomy x.length m.length with hl1 | hl1 | hl1
                        · have hln : lessN x m = true := by unfold lessN; simp [hl1]
                          have hq : chIf (P x) (Q x) x (some m) = true := by rw [HP1.out, HQ1.out]; unfold chIf; simp only [hln]; rfl
                          clear hln hlp
                          have HN : Hid (some x = chTo P Q K ((onceL K).take (i + 1))) := by
                            show _ = _
                            rw [HST.out, ← HU.out]
                            show _ = chS P Q K _ s; rw [HCS.out]; rw [if_pos hq]
                          clear HST HU
                          as_aux_lemma =>
                            go_wp2_with fail
                            go_roundw
                            case rel => exact ⟨i + 1, some x, by omega, by go_num, rfl, HN.out, HXL.out, HB8.out⟩
                            case measure => simp [intOf]; omega
                        · have hll : ¬ x.length < m.length := by omega
                          cases hbl : Op.bytesLess x m with
                          | true =>
                            have hln : lessN x m = true := by unfold lessN; simp [hl1, hbl]
                            have hq : chIf (P x) (Q x) x (some m) = true := by rw [HP1.out, HQ1.out]; unfold chIf; simp only [hln]; rfl
                            rw [hbl] at hlp
                            clear hln hbl
                            have HN : Hid (some x = chTo P Q K ((onceL K).take (i + 1))) := by
                              show _ = _
                              rw [HST.out, ← HU.out]
                              show _ = chS P Q K _ s; rw [HCS.out]; rw [if_pos hq]
                            clear HST HU
                            as_aux_lemma =>
                              go_wp2_with fail
                              go_roundw
                              case rel => exact ⟨i + 1, some x, by omega, by go_num, rfl, HN.out, HXL.out, HB8.out⟩
                              case measure => simp [intOf]; omega
                          | false =>
                            have hln : lessN x m = false := by unfold lessN; simp [hl1, hbl]
                            have hq : chIf (P x) (Q x) x (some m) = false := by rw [HP1.out, HQ1.out]; simp [chIf, hln]
                            rw [hbl] at hlp
                            clear hln hbl
                            have HN : Hid (some m = chTo P Q K ((onceL K).take (i + 1))) := by
                              show _ = _
                              rw [HST.out, ← HU.out]
                              show _ = chS P Q K _ s; rw [HCS.out]; rw [if_neg (by rw [hq]; decide)]
                            clear HST HU
                            as_aux_lemma =>
                              go_wp2_with fail
                              go_roundw
                              case rel => exact ⟨i + 1, some m, by omega, by go_num, rfl, HN.out, HML.out, HB8.out⟩
                              case measure => simp [intOf]; omega
                        · have hll : ¬ x.length < m.length := by omega
                          have hle : ¬ x.length = m.length := by omega
                          have hln : lessN x m = false := by unfold lessN; simp [hll, hle]
                          have hq : chIf (P x) (Q x) x (some m) = false := by rw [HP1.out, HQ1.out]; simp [chIf, hln]
                          clear hln hlp
                          have HN : Hid (some m = chTo P Q K ((onceL K).take (i + 1))) := by
                            show _ = _
                            rw [HST.out, ← HU.out]
                            show _ = chS P Q K _ s; rw [HCS.out]; rw [if_neg (by rw [hq]; decide)]
                          clear HST HU
                          as_aux_lemma =>
                            go_wp2_with fail
                            go_roundw
                            case rel => exact ⟨i + 1, some m, by omega, by go_num, rfl, HN.out, HML.out, HB8.out⟩
                            case measure => simp [intOf]; omega
                    | true =>
                      by_cases hxy : f1v < f2v
                      · skip
                        cases best with
                        | none =>
                          have hq : chIf (P x) (Q x) x none = true := by rw [HP1.out, HQ1.out]; simp [chIf, hxy]
                          have hbe : bs = [] := HBS.out.symm
                          subst hbe
                          have HN : Hid (some x = chTo P Q K ((onceL K).take (i + 1))) := by
                            show _ = _
                            rw [HST.out, ← HU.out]
                            show _ = chS P Q K _ s; rw [HCS.out]; rw [if_pos hq]
                          clear HST HU
                          as_aux_lemma =>
                            go_wp2_with fail
                            go_roundw
                            case rel => exact ⟨i + 1, some x, by omega, by go_num, rfl, HN.out, HXL.out, HB8.out⟩
                            case measure => simp [intOf]; omega
                        | some m =>
                          have hml := HML.out m rfl
                          have hbe : bs = 43 :: m := HBS.out.symm
                          subst hbe
                          have hlp := less_plus x m
                          rcases Nat.lt_trichotomy x.length m.length with hl1 | hl1 | hl1
                          · have hln : lessN x m = true := by unfold lessN; simp [hl1]
                            have hq : chIf (P x) (Q x) x (some m) = true := by rw [HP1.out, HQ1.out]; unfold chIf; simp only [hln]; simp [chIf, hxy]
                            clear hln hlp
                            have HN : Hid (some x = chTo P Q K ((onceL K).take (i + 1))) := by
                              show _ = _
                              rw [HST.out, ← HU.out]
                              show _ = chS P Q K _ s; rw [HCS.out]; rw [if_pos hq]
                            clear HST HU
                            as_aux_lemma =>
                              go_wp2_with fail
                              go_roundw
                              case rel => exact ⟨i + 1, some x, by omega, by go_num, rfl, HN.out, HXL.out, HB8.out⟩
                              case measure => simp [intOf]; omega
                          · have hll : ¬ x.length < m.length := by omega
                            cases hbl : Op.bytesLess x m with
                            | true =>
                              have hln : lessN x m = true := by unfold lessN; simp [hl1, hbl]
                              have hq : chIf (P x) (Q x) x (some m) = true := by rw [HP1.out, HQ1.out]; unfold chIf; simp only [hln]; simp [chIf, hxy]
                              rw [hbl] at hlp
                              clear hln hbl
                              have HN : Hid (some x = chTo P Q K ((onceL K).take (i + 1))) := by
                                show _ = _
                                rw [HST.out, ← HU.out]
                                show _ = chS P Q K _ s; rw [HCS.out]; rw [if_pos hq]
                              clear HST HU
                              as_aux_lemma =>
                                go_wp2_with fail
                                go_roundw
                                case rel => exact ⟨i + 1, some x, by omega, by go_num, rfl, HN.out, HXL.out, HB8.out⟩
                                case measure => simp [intOf]; omega
                            | false =>
                              have hln : lessN x m = false := by unfold lessN; simp [hl1, hbl]
                              have hq : chIf (P x) (Q x) x (some m) = false := by rw [HP1.out, HQ1.out]; simp [chIf, hln]
                              rw [hbl] at hlp
                              clear hln hbl
                              have HN : Hid (some m = chTo P Q K ((onceL K).take (i + 1))) := by
                                show _ = _
                                rw [HST.out, ← HU.out]
                                show _ = chS P Q K _ s; rw [HCS.out]; rw [if_neg (by rw [hq]; decide)]
                              clear HST HU
                              as_aux_lemma =>
                                go_wp2_with fail
                                go_roundw
                                case rel => exact ⟨i + 1, some m, by omega, by go_num, rfl, HN.out, HML.out, HB8.out⟩
                                case measure => simp [intOf]; omega
                          · have hll : ¬ x.length < m.length := by omega
                            have hle : ¬ x.length = m.length := by omega
                            have hln : lessN x m = false := by unfold lessN; simp [hll, hle]
                            have hq : chIf (P x) (Q x) x (some m) = false := by rw [HP1.out, HQ1.out]; simp [chIf, hln]
                            clear hln hlp
                            have HN : Hid (some m = chTo P Q K ((onceL K).take (i + 1))) := by
                              show _ = _
                              rw [HST.out, ← HU.out]
                              show _ = chS P Q K _ s; rw [HCS.out]; rw [if_neg (by rw [hq]; decide)]
                            clear HST HU
                            as_aux_lemma =>
                              go_wp2_with fail
                              go_roundw
                              case rel => exact ⟨i + 1, some m, by omega, by go_num, rfl, HN.out, HML.out, HB8.out⟩
                              case measure => simp [intOf]; omega
                      have hq : chIf (P x) (Q x) x best = false := by rw [HP1.out, HQ1.out]; simp [chIf, hxy]
                      have HN : Hid (best = chTo P Q K ((onceL K).take (i + 1))) := by
                        show _ = _
                        rw [HST.out, ← HU.out]
                        show _ = chS P Q K _ s; rw [HCS.out]; rw [if_neg (by rw [hq]; decide)]
                      clear HST HU
                      as_aux_lemma =>
                        go_wp2_with fail
                        go_roundw
                        case rel => exact ⟨i + 1, best, by omega, by go_num, by rw [HBS.out], HN.out, HML.out, HB8.out⟩
                        case measure => simp [intOf]; omega
end Go.Proofs.YtacekbbndamkmaaGreatDoor

set_option linter.unusedVariables false
set_option linter.unusedSimpArgs false
namespace Go.Proofs.YtacekbbndamkmaaGreatDoor
open Go.RowKit

theorem less_lt : ∀ (a b : List UInt8), Op.bytesLess a b = true ↔ a < b
  | [], [] => by simp [Op.bytesLess]
  | [], _ :: _ => by simp [Op.bytesLess]
  | _ :: _, [] => by simp [Op.bytesLess]
  | c :: a, d :: b => by
    rw [less_cons, List.cons_lt_cons_iff, Bool.or_eq_true, Bool.and_eq_true, decide_eq_true_eq, beq_iff_eq, less_lt a b]

/-- The last of the first k ports of a number till a moment. -/
def lastTo (ps : List Prt) (n : List UInt8) (t : Int) : Nat → Option Prt
  | 0 => none
  | k + 1 => if (ps.getD k noPrt).n = n ∧ (ps.getD k noPrt).at_ ≤ t then some (ps.getD k noPrt) else lastTo ps n t k
theorem last_found (ps : List Prt) (n : List UInt8) (t : Int) : ∀ k, (lastTo ps n t k = none ∧ ∀ i, i < k → ¬ ((ps.getD i noPrt).n = n ∧ (ps.getD i noPrt).at_ ≤ t)) ∨
    ∃ i, i < k ∧ lastTo ps n t k = some (ps.getD i noPrt) ∧ (ps.getD i noPrt).n = n ∧ (ps.getD i noPrt).at_ ≤ t ∧ ∀ j, i < j → j < k → ¬ ((ps.getD j noPrt).n = n ∧ (ps.getD j noPrt).at_ ≤ t)
  | 0 => Or.inl ⟨rfl, fun i hi => by omega⟩
  | k + 1 => by
    unfold lastTo
    by_cases h : (ps.getD k noPrt).n = n ∧ (ps.getD k noPrt).at_ ≤ t
    · rw [if_pos h]
      exact Or.inr ⟨k, by omega, rfl, h.1, h.2, fun j h1 h2 => by omega⟩
    · rw [if_neg h]
      rcases last_found ps n t k with ⟨h1, h2⟩ | ⟨i, h1, h2, h3, h4, h5⟩
      · refine Or.inl ⟨h1, fun i hi => ?_⟩
        rcases Nat.lt_succ_iff_lt_or_eq.1 hi with h9 | rfl
        · exact h2 i h9
        · exact h
      · refine Or.inr ⟨i, by omega, h2, h3, h4, fun j k1 k2 => ?_⟩
        rcases Nat.lt_succ_iff_lt_or_eq.1 k2 with h9 | rfl
        · exact h5 j k1 h9
        · exact h
/-- The owner of a number among the first k. -/
def ownC (os : List Own) (n : List UInt8) : Option (List UInt8) := (os.find? fun o => inRng o.r n).map (·.c)
def carTo (os : List Own) (ps : List Prt) (n : List UInt8) (t : Int) (k : Nat) : Option (List UInt8) := match lastTo ps n t k with | some p => some p.c | none => ownC os n
def carV (os : List Own) (ps : List Prt) (n : List UInt8) (t : Int) : Option (List UInt8) := carTo os ps n t ps.length
theorem carTo_succ (os : List Own) (ps : List Prt) (n : List UInt8) (t : Int) (k : Nat) : carTo os ps n t (k + 1) = if (ps.getD k noPrt).n = n ∧ (ps.getD k noPrt).at_ ≤ t then some (ps.getD k noPrt).c else carTo os ps n t k := by
  unfold carTo
  rw [lastTo]
  split
  · rename_i p h1
    split at h1
    · injection h1 with h1
      rename_i h2
      rw [if_pos h2, h1]
    · rename_i h2
      rw [if_neg h2, h1]
  · rename_i h1
    split at h1
    · cases h1
    · rename_i h2
      rw [if_neg h2, h1]

/-- The error of port i. -/
def portErr (ps : List Prt) (i : Nat) : Int :=
  if isNumB (ps.getD i noPrt).n = false then 3
  else if isMomB (ps.getD i noPrt).at_ = false then 1
  else if isKeyB (ps.getD i noPrt).c = false then 5
  else if 0 < i ∧ ¬ (Op.bytesLess (ps.getD (i - 1) noPrt).n (ps.getD i noPrt).n = true ∨ (ps.getD (i - 1) noPrt).n = (ps.getD i noPrt).n ∧ (ps.getD (i - 1) noPrt).at_ < (ps.getD i noPrt).at_) then 7
  else 0
def ownErr (os : List Own) (i : Nat) : Int := if isKeyB (os.getD i noOwn).c = false then 5 else 0
def portsErr (os : List Own) (ps : List Prt) : Int :=
  if rngsErr 0 (os.map (·.r)) ≠ 0 then rngsErr 0 (os.map (·.r))
  else if firstErr (ownErr os) os.length ≠ 0 then firstErr (ownErr os) os.length
  else if 1000 < ps.length then 2
  else firstErr (portErr ps) ps.length
theorem ports_parts {os : List Own} {ps : List Prt} (h : portsErr os ps = 0) : rngsErr 0 (os.map (·.r)) = 0 ∧ (∀ i, i < os.length → ownErr os i = 0) ∧ ps.length ≤ 1000 ∧ ∀ i, i < ps.length → portErr ps i = 0 := by
  unfold portsErr at h
  split at h
  · rename_i h1; exact absurd h h1
  · rename_i h1
    split at h
    · rename_i h2; exact absurd h h2
    · rename_i h2
      split at h
      · cases h
      · rename_i h3
        exact ⟨by simpa using h1, first_zero (by simpa using h2), by omega, first_zero h⟩
theorem port_parts {ps : List Prt} {i : Nat} (h : portErr ps i = 0) : isNumB (ps.getD i noPrt).n = true ∧ isMomB (ps.getD i noPrt).at_ = true ∧ isKeyB (ps.getD i noPrt).c = true ∧ (0 < i → ((ps.getD (i - 1) noPrt).n < (ps.getD i noPrt).n ∨ (ps.getD (i - 1) noPrt).n = (ps.getD i noPrt).n ∧ (ps.getD (i - 1) noPrt).at_ < (ps.getD i noPrt).at_)) := by
  unfold portErr at h
  split at h
  · cases h
  · rename_i h1
    split at h
    · cases h
    · rename_i h2
      split at h
      · cases h
      · rename_i h3
        split at h
        · cases h
        · rename_i h4
          refine ⟨by simpa using h1, by simpa using h2, by simpa using h3, fun h0 => ?_⟩
          rw [less_lt] at h4
          exact Decidable.byContradiction fun hn => h4 ⟨h0, hn⟩
theorem ports_order {ps : List Prt} (h : ∀ i, i < ps.length → portErr ps i = 0) : ∀ j i, i < j → j < ps.length → ((ps.getD i noPrt).n < (ps.getD j noPrt).n ∨ (ps.getD i noPrt).n = (ps.getD j noPrt).n ∧ (ps.getD i noPrt).at_ < (ps.getD j noPrt).at_)
  | 0, i, hi, _ => by omega
  | j + 1, i, hi, hj => by
    have h1 := (port_parts (h (j + 1) hj)).2.2.2 (by omega)
    rw [Nat.add_sub_cancel] at h1
    rcases Nat.lt_succ_iff_lt_or_eq.1 hi with h9 | rfl
    · have h2 := ports_order h j i h9 (by omega)
      rcases h2 with h2 | ⟨h2, h3⟩
      · rcases h1 with h1 | ⟨h1, h4⟩
        · exact Or.inl (List.lt_trans h2 h1)
        · exact Or.inl (by rw [← h1]; exact h2)
      · rcases h1 with h1 | ⟨h1, h4⟩
        · exact Or.inl (by rw [h2]; exact h1)
        · exact Or.inr ⟨h2.trans h1, by omega⟩
    · exact h1
/-- Is port i the last of its number till t? -/
def lastB (ps : List Prt) (t : Int) (i : Nat) : Prop := i + 1 = ps.length ∨ (ps.getD (i + 1) noPrt).n ≠ (ps.getD i noPrt).n ∨ t < (ps.getD (i + 1) noPrt).at_
instance (ps : List Prt) (t : Int) (i : Nat) : Decidable (lastB ps t i) := by unfold lastB; infer_instance
def movP1 (os : List Own) (ps : List Prt) (c : List UInt8) (t : Int) (i : Nat) : Option (List UInt8) :=
  if (ps.getD i noPrt).at_ ≤ t ∧ lastB ps t i ∧ (ps.getD i noPrt).c = c ∧ ownC os (ps.getD i noPrt).n ≠ some c then some (ps.getD i noPrt).n else none
def movP (os : List Own) (ps : List Prt) (c : List UInt8) (t : Int) (k : Nat) : List (List UInt8) := (List.range k).filterMap (movP1 os ps c t)
def movR1 (os : List Own) (ps : List Prt) (c : List UInt8) (t : Int) (i : Nat) : Option (List UInt8) :=
  if (ps.getD i noPrt).at_ ≤ t ∧ (carV os ps (ps.getD i noPrt).n t).getD [] = c ∧ (ownC os (ps.getD i noPrt).n).getD [] ≠ c then some (ps.getD i noPrt).n else none
def movR (os : List Own) (ps : List Prt) (c : List UInt8) (t : Int) (k : Nat) : List (List UInt8) := (List.range k).filterMap (movR1 os ps c t)
theorem movP_succ (os : List Own) (ps : List Prt) (c : List UInt8) (t : Int) (k : Nat) : movP os ps c t (k + 1) = movP os ps c t k ++ (movP1 os ps c t k).toList := by
  unfold movP
  rw [List.range_succ, List.filterMap_append]
  congr 1
theorem movR_succ (os : List Own) (ps : List Prt) (c : List UInt8) (t : Int) (k : Nat) : movR os ps c t (k + 1) = movR os ps c t k ++ (movR1 os ps c t k).toList := by
  unfold movR
  rw [List.range_succ, List.filterMap_append]
  congr 1
theorem fm_len {α : Type} (f : Nat → Option α) (k : Nat) : ((List.range k).filterMap f).length ≤ k := by
  have := List.length_filterMap_le f (List.range k)
  simpa using this
/-- A port that is the last of its number till t. -/
theorem last_of {os : List Own} {ps : List Prt} {t : Int} (h : ∀ i, i < ps.length → portErr ps i = 0) {i : Nat} (hi : i < ps.length) (ht : (ps.getD i noPrt).at_ ≤ t) : lastB ps t i ↔ lastTo ps (ps.getD i noPrt).n t ps.length = some (ps.getD i noPrt) := by
  have hno : lastB ps t i → ∀ j, i < j → j < ps.length → ¬ ((ps.getD j noPrt).n = (ps.getD i noPrt).n ∧ (ps.getD j noPrt).at_ ≤ t) := by
    intro hl j h1 h2 ⟨h3, h4⟩
    have h5 := ports_order h (i + 1) i (by omega) (by omega)
    have h6 : (ps.getD (i + 1) noPrt).n = (ps.getD i noPrt).n ∧ (ps.getD (i + 1) noPrt).at_ ≤ (ps.getD j noPrt).at_ := by
      rcases Nat.lt_or_eq_of_le (show i + 1 ≤ j by omega) with h7 | rfl
      · have h8 := ports_order h j (i + 1) h7 h2
        rcases h8 with h8 | ⟨h8, h9⟩
        · rw [h3] at h8
          rcases h5 with h5 | ⟨h5, -⟩
          · exact absurd (List.lt_trans h5 h8) (List.lt_irrefl _)
          · rw [h5] at h8; exact absurd h8 (List.lt_irrefl _)
        · exact ⟨h8.trans h3, by omega⟩
      · exact ⟨h3, Int.le_refl _⟩
    rcases hl with hl | hl | hl
    · omega
    · exact hl h6.1
    · omega
  refine ⟨fun hl => ?_, fun hl => ?_⟩
  · rcases last_found ps (ps.getD i noPrt).n t ps.length with ⟨h1, h2⟩ | ⟨k, h1, h2, h3, h4, h5⟩
    · exact absurd ⟨rfl, ht⟩ (h2 i hi)
    · rcases Nat.lt_trichotomy k i with h6 | rfl | h6
      · exact absurd ⟨rfl, ht⟩ (h5 i h6 hi)
      · exact h2
      · exact absurd ⟨h3, h4⟩ (hno hl k h6 h1)
  · rcases last_found ps (ps.getD i noPrt).n t ps.length with ⟨h1, -⟩ | ⟨k, h1, h2, h3, h4, h5⟩
    · rw [h1] at hl; cases hl
    · rw [h2] at hl
      injection hl with hl
      have hk : k = i := by
        rcases Nat.lt_trichotomy k i with h6 | h6 | h6
        · have := ports_order h i k h6 hi
          rw [hl] at this
          rcases this with h7 | ⟨-, h7⟩
          · exact absurd h7 (List.lt_irrefl _)
          · omega
        · exact h6
        · have := ports_order h k i h6 h1
          rw [hl] at this
          rcases this with h7 | ⟨-, h7⟩
          · exact absurd h7 (List.lt_irrefl _)
          · omega
      subst hk
      by_cases he : k + 1 = ps.length
      · exact Or.inl he
      · by_cases hn : (ps.getD (k + 1) noPrt).n = (ps.getD k noPrt).n
        · refine Or.inr (Or.inr ?_)
          have := h5 (k + 1) (by omega) (by omega)
          rw [hn] at this
          by_cases h9 : (ps.getD (k + 1) noPrt).at_ ≤ t
          · exact absurd ⟨rfl, h9⟩ this
          · omega
        · exact Or.inr (Or.inl hn)
theorem moved_same {os : List Own} {ps : List Prt} {c : List UInt8} {t : Int} (hk : c ≠ []) (h : ∀ i, i < ps.length → portErr ps i = 0) : movP os ps c t ps.length = onceL (movR os ps c t ps.length) := by
  have tr : ∀ a b c : List UInt8, leB a b = true → leB b c = true → leB a c = true := fun a b c h1 h2 => by simp only [leB, decide_eq_true_eq] at *; exact List.le_trans h1 h2
  have tot : ∀ a b : List UInt8, (leB a b || leB b a) = true := fun a b => by simp only [leB, Bool.or_eq_true, decide_eq_true_eq]; exact List.le_total a b
  have hown : ∀ z, ownC os z ≠ some c ↔ (ownC os z).getD [] ≠ c := fun z => by
    cases ho : ownC os z with
    | none => exact ⟨fun _ e => hk e.symm, fun _ e => by cases e⟩
    | some x => exact ⟨fun h1 e => h1 (by rw [← e]; rfl), fun h1 e => h1 (by injection e)⟩
  refine strict_unique ?_ (compact_strict _ (List.pairwise_mergeSort tr tot _)) fun z => ?_
  · unfold movP
    rw [List.pairwise_filterMap]
    refine List.Pairwise.imp_of_mem (R := (· < ·)) ?_ List.pairwise_lt_range
    intro i j hi hj hij x hx y hy
    have hj' : j < ps.length := by simpa using hj
    unfold movP1 at hx hy
    split at hx
    · rename_i hx1
      split at hy
      · rename_i hy1
        injection hx with hx
        injection hy with hy
        subst hx hy
        rcases ports_order h j i hij hj' with h1 | ⟨h1, h2⟩
        · exact h1
        · have hl := (last_of (os := os) h (by omega) hx1.1).1 hx1.2.1
          have hl2 := (last_of (os := os) h hj' hy1.1).1 hy1.2.1
          rw [← h1, hl] at hl2
          injection hl2 with hl2
          rw [hl2] at h2
          omega
      · cases hy
    · cases hx
  · unfold onceL
    rw [mem_compact, List.mem_mergeSort]
    unfold movP movR
    rw [List.mem_filterMap, List.mem_filterMap]
    refine ⟨fun ⟨i, h1, h2⟩ => ?_, fun ⟨i, h1, h2⟩ => ?_⟩
    · have hi : i < ps.length := by simpa using h1
      unfold movP1 at h2
      split at h2
      · rename_i h3
        injection h2 with h2
        refine ⟨i, h1, ?_⟩
        have hl := (last_of (os := os) h hi h3.1).1 h3.2.1
        unfold movR1 carV carTo
        rw [hl]
        rw [if_pos ⟨h3.1, h3.2.2.1, (hown _).1 h3.2.2.2⟩, h2]
      · cases h2
    · have hi : i < ps.length := by simpa using h1
      unfold movR1 at h2
      split at h2
      · rename_i h3
        injection h2 with h2
        rcases last_found ps (ps.getD i noPrt).n t ps.length with ⟨-, k2⟩ | ⟨k, k1, k2, k3, k4, k5⟩
        · exact absurd ⟨rfl, h3.1⟩ (k2 i hi)
        · refine ⟨k, by simpa using k1, ?_⟩
          have hl : lastB ps t k := (last_of (os := os) h k1 k4).2 (by rw [k3]; exact k2)
          have hc := h3.2.1
          unfold carV carTo at hc
          rw [k2] at hc
          unfold movP1
          rw [if_pos ⟨k4, hl, hc, by rw [k3]; exact (hown _).2 h3.2.2⟩, k3, h2]
      · cases h2
end Go.Proofs.YtacekbbndamkmaaGreatDoor

set_option linter.unusedVariables false
set_option linter.unusedSimpArgs false
namespace Go.Proofs.YtacekbbndamkmaaGreatDoor
open Go.RowKit

/-- The rate of the lesser price at a prefix. -/
def bestO (a b : List Rate) (s : List UInt8) : Rate := ⟨s, (lesserV ((rateOf a s s.length).getD noRate) ((rateOf b s s.length).getD noRate) (rateOf a s s.length).isSome (rateOf b s s.length).isSome).price, (lesserV ((rateOf a s s.length).getD noRate) ((rateOf b s s.length).getD noRate) (rateOf a s s.length).isSome (rateOf b s s.length).isSome).closed⟩
def bestV (a b : List Rate) : List Rate := (onceL (a.map (·.p) ++ b.map (·.p))).map (bestO a b)
theorem map_step {α β : Type} (f : α → β) (l : List α) (d : α) (i : Nat) (hi : i < l.length) : (l.take (i + 1)).map f = (l.take i).map f ++ [f (l.getD i d)] := by
  rw [List.take_add_one, List.getElem?_eq_getElem hi, List.map_append]
  simp only [Option.toList_some, List.map_cons, List.map_nil, List.getD_eq_getElem?_getD, List.getElem?_eq_getElem hi, Option.getD_some]
theorem once_strict (K : List (List UInt8)) : (onceL K).Pairwise (· < ·) := by
  have tr : ∀ a b c : List UInt8, leB a b = true → leB b c = true → leB a c = true := fun a b c h1 h2 => by simp only [leB, decide_eq_true_eq] at *; exact List.le_trans h1 h2
  have tot : ∀ a b : List UInt8, (leB a b || leB b a) = true := fun a b => by simp only [leB, Bool.or_eq_true, decide_eq_true_eq]; exact List.le_total a b
  exact compact_strict _ (List.pairwise_mergeSort tr tot K)
theorem best_sorted (a b : List Rate) : RSorted (bestV a b) := by
  refine RSorted.of_pair ?_
  unfold bestV
  rw [List.pairwise_map]
  refine (once_strict _).imp fun {x y} h => ?_
  exact (less_lt x y).2 h
theorem lesser_bound {lo hi : Int} {x y : Rate} (hx : lo ≤ x.price ∧ x.price ≤ hi) (hy : lo ≤ y.price ∧ y.price ≤ hi) (f1 f2 : Bool) : lo ≤ (lesserV x y f1 f2).price ∧ (lesserV x y f1 f2).price ≤ hi := by
  unfold lesserV
  split
  · exact hx
  · exact hy
theorem rate_bound {w : World} {a : Option Addr} {n : Nat} {rs : List Rate} (h : RateRow w a n rs) (s : List UInt8) (k : Nat) : -2000000000000 ≤ ((rateOf rs s k).getD noRate).price ∧ ((rateOf rs s k).getD noRate).price ≤ 2000000000000 := by
  cases he : rateOf rs s k with
  | none => exact ⟨by decide, by decide⟩
  | some r =>
    have hm := rateTo_mem _ he
    exact (rate_mem h r hm).2
theorem best_each {w : World} {a b : Option Addr} {n m : Nat} {rs ks : List Rate} (h : RateRow w a n rs) (h2 : RateRow w b m ks) : ∀ i, i < (bestV rs ks).length → ((bestV rs ks).getD i noRate).p.length ≤ 100 ∧ -2000000000000 ≤ ((bestV rs ks).getD i noRate).price ∧ ((bestV rs ks).getD i noRate).price ≤ 2000000000000 := fun i hi => by
  have hm := mem_getD noRate hi
  unfold bestV at hm
  obtain ⟨s, hs, e⟩ := List.mem_map.1 hm
  have hb := lesser_bound (rate_bound h s s.length) (rate_bound h2 s s.length) (rateOf rs s s.length).isSome (rateOf ks s s.length).isSome
  unfold bestV
  rw [← e]
  refine ⟨?_, hb⟩
  rcases List.mem_append.1 ((mem_once _ _).1 hs) with h9 | h9
  · obtain ⟨r, hr, rfl⟩ := List.mem_map.1 h9
    exact (rate_mem h r hr).1
  · obtain ⟨r, hr, rfl⟩ := List.mem_map.1 h9
    exact (rate_mem h2 r hr).1
theorem best_few {a b : List Rate} (h : a.length + b.length ≤ 100) : (bestV a b).length ≤ 100 := by
  unfold bestV
  rw [List.length_map]
  have := once_len (a.map (·.p) ++ b.map (·.p))
  rw [List.length_append, List.length_map, List.length_map] at this
  omega
theorem rate_of_own {w : World} {base : Nat} {v : Value} {n : Nat} {l : List Rate} (h : w.ownsRow base 51 3 v n ((l.map Rate.cells).flatten)) (hf : n ≤ 100) (he : ∀ i, i < l.length → (l.getD i noRate).p.length ≤ 100 ∧ -2000000000000 ≤ (l.getD i noRate).price ∧ (l.getD i noRate).price ≤ 2000000000000) : ∃ a c, v = .slice a n c ∧ n ≤ c ∧ RateRow w a n l := by
  obtain ⟨a, c, e, hc⟩ := Cells.of_own h (fun x hx => by obtain ⟨y, _, rfl⟩ := List.mem_map.1 hx; rfl) (by decide)
  subst e
  exact ⟨a, c, rfl, (own_caps h).2, hc, hf, he⟩
/-- The reference's choice is the same. -/
def refBest (x y : Rate) (f1 f2 : Bool) : Rate := if (!f1 || (f2 && ((x.closed && !y.closed) || ((x.closed == y.closed) && decide (y.price < x.price))))) = true then y else x
theorem best_choice {x y : Rate} {f1 f2 : Bool} (hx : x.closed = true → x.price = 0) (hy : y.closed = true → y.price = 0) (h1 : f1 = false → x = noRate) (h2 : f2 = false → y = noRate) : (refBest x y f1 f2).price = (lesserV x y f1 f2).price ∧ (refBest x y f1 f2).closed = (lesserV x y f1 f2).closed := by
  obtain ⟨xp, xq, xl⟩ := x
  obtain ⟨yp, yq, yl⟩ := y
  unfold refBest lesserV
  cases f1 <;> cases f2
  · rw [h1 rfl, h2 rfl]; exact ⟨rfl, rfl⟩
  · exact ⟨rfl, rfl⟩
  · exact ⟨rfl, rfl⟩
  · cases xl <;> cases yl
    · by_cases hq : xq ≤ yq
      · have hn : ¬ yq < xq := by omega
        simp [hq, hn]
      · have hn : yq < xq := by omega
        simp [hq, hn]
    · simp
    · simp
    · have e1 : xq = 0 := hx rfl
      have e2 : yq = 0 := hy rfl
      simp [e1, e2]
theorem rate_choice {rs : List Rate} (h : ∀ r ∈ rs, r.p.length ≤ 15 ∧ (r.closed = true → r.price = 0)) (s : List UInt8) (k : Nat) : ((rateOf rs s k).getD noRate).closed = true → ((rateOf rs s k).getD noRate).price = 0 := by
  cases he : rateOf rs s k with
  | none => intro h9; cases h9
  | some r => exact (h r (rateTo_mem _ he)).2
end Go.Proofs.YtacekbbndamkmaaGreatDoor
