/- What is proved here: lemmas and contracts for the statement, put together out of smaller texts (LawDkp). No condition beyond those stated. -/
import Derived.Test.YtacekbbndamkmaaGreatDoorDpPkH
import Derived.Test.YtacekbbndamkmaaGreatDoorDpPkD
import Derived.Test.YtacekbbndamkmaaGreatDoorDpPkI
import Derived.Test.YtacekbbndamkmaaGreatDoorDpPkF
import Derived.Test.YtacekbbndamkmaaGreatDoorDpPkC
import Derived.Deep.DeepCutAuto
set_option linter.unusedVariables false
set_option linter.unusedSimpArgs false
namespace Go.Proofs.YtacekbbndamkmaaGreatDoor
open Go.RowKit

theorem firstP {x y : Int} (h : firstE x y = 0) : x = 0 ∧ y = 0 := by
  unfold firstE at h
  split at h
  · rename_i h1; exact absurd h h1
  · rename_i h1; exact ⟨by simpa using h1, h⟩
theorem whenP_t (w : World) : Calls Tryz.prog 16 #[.bool true, .int .i64 1] w fun r w' => r = .returned (.int .i64 1) ∧ w = w' := when_l true 1 w
theorem whenP_f (w : World) : Calls Tryz.prog 16 #[.bool false, .int .i64 1] w fun r w' => r = .returned (.int .i64 0) ∧ w = w' := when_l false 1 w
theorem rof_first (d : Deck) (n : List UInt8) : rofE d n = firstE (deckErr d) (if isNumB n = true then 0 else 3) := by
  unfold rofE firstE
  generalize deckErr d = x
  generalize isNumB n = b
  by_cases h : x = 0
  · subst h; cases b <;> rfl
  · simp [h]
theorem price_first (d : Deck) (n : List UInt8) (talk : Int) : priceE d n talk = firstE (rofE d n) (if inB talk 0 86400000 = true then 0 else 1) := by
  unfold priceE rofE firstE
  generalize deckErr d = x
  generalize isNumB n = b
  generalize inB talk 0 86400000 = t
  by_cases h : x = 0
  · subst h; cases b <;> cases t <;> rfl
  · simp [h]
theorem rof_is {d : Deck} {n : List UInt8} (h : rofE d n = 0) (hl : d.rates.length ≤ 5000) (hn : n.length ≤ 16) : refTo d.rates (n.drop 1) d.rates.length = rofO d n := by
  unfold rofO
  rw [if_pos h]
  rw [rof_first] at h
  exact ref_same (deck_good hl (firstP h).1).sorted (by rw [List.length_drop]; omega)
theorem numP_len {n : List UInt8} (h : isNumB n = true) : 1 ≤ n.length := by obtain ⟨d, rfl, -⟩ := num_parts h; simp
theorem rof_num {d : Deck} {n : List UInt8} (h : rofE d n = 0) : deckErr d = 0 ∧ isNumB n = true := by
  rw [rof_first] at h
  obtain ⟨h1, h2⟩ := firstP h
  refine ⟨h1, ?_⟩
  by_cases h3 : isNumB n = true
  · exact h3
  · rw [if_neg h3] at h2; cases h2
theorem price_talk {d : Deck} {n : List UInt8} {talk : Int} (h : priceE d n talk = 0) : rofE d n = 0 ∧ (0 ≤ talk ∧ talk ≤ 86400000) := by
  rw [price_first] at h
  obtain ⟨h1, h2⟩ := firstP h
  refine ⟨h1, ?_⟩
  by_cases h3 : inB talk 0 86400000 = true
  · unfold inB at h3; simpa using h3
  · rw [if_neg h3] at h2; cases h2
theorem bl_ldp0 (e : Operand → Value) (he : ∀ v, e (.const v) = v) (o : Oper) (w : World)  (p0 : ByteArray) (p1 : ByteArray) (p2 : ByteArray) (p3 : ByteArray) (p4 : ByteArray) (p5 : ByteArray) (p6 : ByteArray) (ho : o.op = .buildSlice 38 7 #[(0, .const (.string p0)), (1, .const (.string p1)), (2, .const (.string p2)), (3, .const (.string p3)), (4, .const (.string p4)), (5, .const (.string p5)), (6, .const (.string p6))])  :
   (execOp e o).run Tryz.prog w = .ok (.value (.slice (some ⟨w.heap.size, 0, none⟩) 7 7)) (w.alloc (.cells #[.string p0, .string p1, .string p2, .string p3, .string p4, .string p5, .string p6] 9)) := by
  unfold execOp
  rw [ho]
  simp only [List.map_toArray, List.map_cons, List.map_nil, he]
  kernel_rfl
theorem bl_ldp1 (e : Operand → Value) (he : ∀ v, e (.const v) = v) (o : Oper) (w : World)  (z0 : Int) (z1 : Int) (z2 : Int) (z3 : Int) (z4 : Int) (z5 : Int) (z6 : Int) (z7 : Int) (z8 : Int) (ho : o.op = .buildSlice 22 9 #[(0, .const (.int .i64 z0)), (1, .const (.int .i64 z1)), (2, .const (.int .i64 z2)), (3, .const (.int .i64 z3)), (4, .const (.int .i64 z4)), (5, .const (.int .i64 z5)), (6, .const (.int .i64 z6)), (7, .const (.int .i64 z7)), (8, .const (.int .i64 z8))])  :
   (execOp e o).run Tryz.prog w = .ok (.value (.slice (some ⟨w.heap.size, 0, none⟩) 9 9)) (w.alloc (.cells #[.int .i64 z0, .int .i64 z1, .int .i64 z2, .int .i64 z3, .int .i64 z4, .int .i64 z5, .int .i64 z6, .int .i64 z7, .int .i64 z8] 3)) := by
  unfold execOp
  rw [ho]
  simp only [List.map_toArray, List.map_cons, List.map_nil, he]
  kernel_rfl
theorem bl_ldp2 (e : Operand → Value) (he : ∀ v, e (.const v) = v) (o : Oper) (w : World) (i0 : Nat) (i1 : Nat) (z0 : Int) (z1 : Int) (ho : o.op = .buildSlice 82 2 #[(0, .tmp i0), (1, .tmp i1)]) (h0 : e (.tmp i0) = .int .i64 z0) (h1 : e (.tmp i1) = .int .i64 z1) :
   (execOp e o).run Tryz.prog w = .ok (.value (.slice (some ⟨w.heap.size, 0, none⟩) 2 2)) (w.alloc (.cells #[.int .i64 z0, .int .i64 z1] 31)) := by
  unfold execOp
  rw [ho]
  simp only [List.map_toArray, List.map_cons, List.map_nil, h0, h1]
  kernel_rfl
set_option maxRecDepth 100000 in
set_option maxHeartbeats 80000000 in
theorem decksPrice_true (w : World) (a0 : Option Addr) (len cap : Nat) (zs : List Int) (hr : ArgRow w a0 len cap zs) (hL : LibsW w.heap.size w) :
    Calls Tryz.prog 4 #[.slice a0 len cap] w fun e w' => e = .returned (.bool true) ∧ Below w.heap.size w w' := by
  have HS0 := Lib.hid (stream_start hr)
  have HL0 : Hid (LibsW w.heap.size (w.alloc (.cells #[.slice a0 len cap, .int .i64 0] 25))) := hL.below (ext_alloc (Below.refl _ _)) (Nat.le_refl _)
  have HEND : Hid (∀ W, Keeps w.heap.size (w.alloc (.cells #[.slice a0 len cap, .int .i64 0] 25)) W → Below w.heap.size w W) := fun W h => law_end h
  have hsz : w.heap.size < (w.alloc (.cells #[.slice a0 len cap, .int .i64 0] 25)).heap.size := by simp
  clear hr hL
  go_enter Tryz.func4, Tryz.ntmps4
  go_wp2_with fail
  refine (deck_any w.heap.size 0 _ HS0.out (by omega)).mono ?_
  rintro e w1 ⟨d1, he, ho, hst, hk'⟩
  have hdt := deckT_small ho
  obtain ⟨gf, gs, gl, gp, ga, gn, gc, grs⟩ := d1
  have he2 : e = .returned (.agg #[.int .i64 gf, .int .i64 gs, .int .i64 gl, .int .i64 gp, .slice ga gn gc]) := he
  subst he2
  clear he
  have HDT : Hid ((deckT gf gs gl gp grs).length ≤ 20000) := hdt
  have HDA : Hid (∀ W, Keeps w.heap.size w1 W → DeckFine W (⟨gf, gs, gl, gp, ga, gn, gc, grs⟩ : Deck)) := fun W hW => (ho.keeps hW hsz).fine
  have hgl : grs.length ≤ 50 := ho.ok.1
  have HS1 := Lib.hid hst
  have HK1 := Lib.hid hk'
  have hsz1 : w.heap.size < w1.heap.size := Nat.lt_of_lt_of_le hsz hk'.size
  have HL1 := Lib.hid (HL0.out.keeps hk' hsz)
  clear ho hst hk' HS0 hsz HL0 hdt
  as_aux_lemma =>
    go_wp2_with ((refine wpList_val rfl (bl_ldp0 _ (fun _ => rfl) _ _  ⟨#[43, 52, 57, 51, 48]⟩ ⟨#[43, 52, 57, 51, 48, 49]⟩ ⟨#[43, 52, 57, 52, 49, 50, 51, 52]⟩ ⟨#[43, 49, 50, 48, 48]⟩ ⟨#[43, 53, 53, 49, 50]⟩ ⟨#[43, 55, 48, 48, 48]⟩ ⟨#[120]⟩ rfl) ?_))
    refine (some_lit w.heap.size (0 + 50) [[43, 52, 57, 51, 48], [43, 52, 57, 51, 48, 49], [43, 52, 57, 52, 49, 50, 51, 52], [43, 49, 50, 48, 48], [43, 53, 53, 49, 50], [43, 55, 48, 48, 48], [120]] (fun s => s.length ≤ 16) _ _ _ HS1.out (by omega) rfl rfl (by decide) (by decide) (by decide)).mono ?_
    rintro e w2 ⟨n, rfl, hnl, hst, hk'⟩
    have hnl : n.length ≤ 16 := hnl
    have HS2 := Lib.hid hst
    have HK2 := Lib.hid (HK1.out.trans hk')
    have HD2 : Hid (∀ W, Keeps w.heap.size w2 W → DeckFine W (⟨gf, gs, gl, gp, ga, gn, gc, grs⟩ : Deck)) := fun W hW => HDA.out W (hk'.trans hW)
    have HL2 := Lib.hid (HL1.out.keeps hk' hsz1)
    have hsz2 : w.heap.size < w2.heap.size := Nat.lt_of_lt_of_le hsz1 hk'.size
    clear hst hk' HS1 HK1 HL1 HDA hsz1
    as_aux_lemma =>
      go_wp2_with ((refine wpList_val rfl (bl_ldp1 _ (fun _ => rfl) _ _  0 1 29999 60000 60001 1000000 86400000 ((-1)) 86400001 rfl) ?_))
      refine (pick_lit w.heap.size (0 + 50 + 1) [0, 1, 29999, 60000, 60001, 1000000, 86400000, -1, 86400001] (fun x => -1 ≤ x ∧ x ≤ 86400001) _ _ _ HS2.out (by omega) rfl rfl (by decide) (by decide) (by decide)).mono ?_
      rintro e w3 ⟨talk, rfl, hz, hst, hk'⟩
      have HTB := Lib.hid hz
      have HS3 := Lib.hid hst
      have HK3 := Lib.hid (HK2.out.trans hk')
      have HD3 : Hid (∀ W, Keeps w.heap.size w3 W → DeckFine W (⟨gf, gs, gl, gp, ga, gn, gc, grs⟩ : Deck)) := fun W hW => HD2.out W (hk'.trans hW)
      have HL3 := Lib.hid (HL2.out.keeps hk' hsz2)
      have hsz3 : w.heap.size < w3.heap.size := Nat.lt_of_lt_of_le hsz2 hk'.size
      clear hz hst hk' HS2 HK2 HL2 HD2 hsz2
      have hx0 : Blk (w3.alloc (.cells #[.int .i64 0, .int .i64 0, .int .i64 0, .int .i64 0, .slice none 0 0] 28)) w3.heap.size [.int .i64 0, .int .i64 0, .int .i64 0, .int .i64 0, .slice none 0 0] 28 := Blk.new w3 _ _
      have HTH1 : Hid (World.there (w3.alloc (.cells #[.int .i64 0, .int .i64 0, .int .i64 0, .int .i64 0, .slice none 0 0] 28)) w3.heap.size 0 5) := hx0.th 5 (Nat.le_refl 5)
      have HX : Hid (Blk (World.setCells (w3.alloc (.cells #[.int .i64 0, .int .i64 0, .int .i64 0, .int .i64 0, .slice none 0 0] 28)) w3.heap.size 0 [.int .i64 gf, .int .i64 gs, .int .i64 gl, .int .i64 gp, .slice ga gn gc]) w3.heap.size [.int .i64 gf, .int .i64 gs, .int .i64 gl, .int .i64 gp, .slice ga gn gc] 28) := hx0.set5 (.int .i64 gf) (.int .i64 gs) (.int .i64 gl) (.int .i64 gp) (.slice ga gn gc)
      have HB5 : Hid (Below w3.heap.size w3 (World.setCells (w3.alloc (.cells #[.int .i64 0, .int .i64 0, .int .i64 0, .int .i64 0, .slice none 0 0] 28)) w3.heap.size 0 [.int .i64 gf, .int .i64 gs, .int .i64 gl, .int .i64 gp, .slice ga gn gc])) := below_put (Nat.le_refl _) (ext_alloc (Below.refl _ _)) _
      clear hx0
      as_aux_lemma =>
        go_wp2_with (refine wpList_store_mid rfl 28 (.tmp 4) (.tmp 31) rfl w3.heap.size 0 #[.int .i64 gf, .int .i64 gs, .int .i64 gl, .int .i64 gp, .slice ga gn gc] rfl rfl HTH1.out Tryz.deckSz (by simp [Value.oneCell']) ?_; generalize (World.setCells (w3.alloc (.cells #[.int .i64 0, .int .i64 0, .int .i64 0, .int .i64 0, .slice none 0 0] 28)) w3.heap.size 0 [.int .i64 gf, .int .i64 gs, .int .i64 gl, .int .i64 gp, .slice ga gn gc]) = w5 at HX HB5 ⊢; clear HTH1; refine Hid.out ?_)
        refine Lib.hid ?_
        generalize hXX : w3.heap.size = X at HX ⊢
        clear hXX
        have HK5 : Hid (Keeps w.heap.size w3 w5) := Keeps.of_below HB5.out
        have HFIN : Hid (∀ W, Below w5.heap.size w5 W → Below w.heap.size w W) := fun W hW => HEND.out W ((HK3.out.trans HK5.out).trans (Keeps.of_below hW))
        have HD : Hid (∀ W, Below w5.heap.size w5 W → DeckFine W (⟨gf, gs, gl, gp, ga, gn, gc, grs⟩ : Deck)) := fun W hW => HD3.out W (HK5.out.trans (Keeps.of_below hW))
        have hsz5 : w.heap.size < w5.heap.size := Nat.lt_of_lt_of_le hsz3 HB5.out.size
        have HLL : Hid (∀ W, Below w5.heap.size w5 W → LibsW w.heap.size W) := fun W hW => (HL3.out.below HB5.out (Nat.le_of_lt hsz3)).below hW (Nat.le_of_lt hsz5)
        have HSS : Hid (∀ W, Below w5.heap.size w5 W → StreamOk W w.heap.size (0 + 50 + 1 + 1)) := fun W hW => (HS3.out.below HB5.out).below hW
        have HSZ : Hid (∀ W, Below w5.heap.size w5 W → w.heap.size ≤ W.heap.size) := fun W hW => Nat.le_trans (Nat.le_of_lt hsz5) hW.size
        have HKE : Hid (∀ v W, Below w5.heap.size w5 v → Keeps w.heap.size v W → Below w.heap.size w W) := fun v W hv hW => HEND.out W (((HK3.out.trans HK5.out).trans (Keeps.of_below hv)).trans hW)
        clear HD3 HK3 HK5 HEND HS3 HL3 HB5 hsz3
        have HF1 : Hid (∀ W, Below w5.heap.size w5 W → Calls Tryz.prog 7 #[.agg #[.int .i64 gf, .int .i64 gs, .int .i64 gl, .int .i64 gp, .slice ga gn gc]] W (ErrPost (deckErr (⟨gf, gs, gl, gp, ga, gn, gc, grs⟩ : Deck)) W)) := fun W hW => deckFault_any W (⟨gf, gs, gl, gp, ga, gn, gc, grs⟩ : Deck) (HD.out W hW)
        have HCD : Hid (∀ W, Below w5.heap.size w5 W → Calls Tryz.prog 25 #[.agg #[.int .i64 gf, .int .i64 gs, .int .i64 gl, .int .i64 gp, .slice ga gn gc]] W (ErrPost (deckErr (⟨gf, gs, gl, gp, ga, gn, gc, grs⟩ : Deck)) W)) := fun W hW => checkDeck_any W (⟨gf, gs, gl, gp, ga, gn, gc, grs⟩ : Deck) (HD.out W hW)
        have HRO : Hid (∀ W, Below w5.heap.size w5 W → Calls Tryz.prog 26 #[.agg #[.int .i64 gf, .int .i64 gs, .int .i64 gl, .int .i64 gp, .slice ga gn gc], .string ⟨n.toArray⟩] W (RofPost (⟨gf, gs, gl, gp, ga, gn, gc, grs⟩ : Deck) n W)) := fun W hW => rateOf_any W (⟨gf, gs, gl, gp, ga, gn, gc, grs⟩ : Deck) (HD.out W hW) n (by omega)
        have HPR : Hid (∀ W, Below w5.heap.size w5 W → Calls Tryz.prog 27 #[.agg #[.int .i64 gf, .int .i64 gs, .int .i64 gl, .int .i64 gp, .slice ga gn gc], .string ⟨n.toArray⟩, .int .i64 talk] W (PricePost (⟨gf, gs, gl, gp, ga, gn, gc, grs⟩ : Deck) n talk W)) := fun W hW => carPrice_any W (⟨gf, gs, gl, gp, ga, gn, gc, grs⟩ : Deck) (HD.out W hW) n (by omega) talk
        have HFF : Hid (∀ W, Below w5.heap.size w5 W → Calls Tryz.prog 28 #[.string ⟨n.toArray⟩] W (ErrPost (if isNumB n = true then 0 else 3) W)) := fun W hW => formFault_any n W (by omega)
        have HRF : Hid (rofE (⟨gf, gs, gl, gp, ga, gn, gc, grs⟩ : Deck) n = 0 → ∀ W, Below w5.heap.size w5 W → Calls Tryz.prog 29 #[.agg #[.int .i64 gf, .int .i64 gs, .int .i64 gl, .int .i64 gp, .slice ga gn gc], .string ⟨n.toArray⟩] W (RatePost (rofO (⟨gf, gs, gl, gp, ga, gn, gc, grs⟩ : Deck) n) W)) := fun h W hW => by
          rw [← rof_is h (show grs.length ≤ 5000 by omega) hnl]
          exact rateForD_any W gf gs gl gp ga gn gc grs n (HD.out W hW).row (numP_len (rof_num h).2) (by omega)
        have HPF : Hid (priceE (⟨gf, gs, gl, gp, ga, gn, gc, grs⟩ : Deck) n talk = 0 → ∀ W, Below w5.heap.size w5 W → Calls Tryz.prog 30 #[.agg #[.int .i64 gf, .int .i64 gs, .int .i64 gl, .int .i64 gp, .slice ga gn gc], .string ⟨n.toArray⟩, .int .i64 talk] W (PriceOfPost (priceA (⟨gf, gs, gl, gp, ga, gn, gc, grs⟩ : Deck) n talk) W)) := fun h W hW => by
          unfold priceA
          rw [if_pos h]
          exact priceFor_any W gf gs gl gp ga gn gc grs n talk (HD.out W hW).row (deck_good (d := (⟨gf, gs, gl, gp, ga, gn, gc, grs⟩ : Deck)) (show grs.length ≤ 5000 by omega) (rof_num (price_talk h).1).1) (numP_len (rof_num (price_talk h).1).2) hnl (price_talk h).2
        have HTX : Hid (∀ W, Below w5.heap.size w5 W → Calls Tryz.prog 31 #[.agg #[.int .i64 gf, .int .i64 gs, .int .i64 gl, .int .i64 gp, .slice ga gn gc]] W (TextPost (if deckErr (⟨gf, gs, gl, gp, ga, gn, gc, grs⟩ : Deck) = 0 then deckT gf gs gl gp grs else []) (deckErr (⟨gf, gs, gl, gp, ga, gn, gc, grs⟩ : Deck)) W)) := fun W hW => carText_any W (⟨gf, gs, gl, gp, ga, gn, gc, grs⟩ : Deck) (HD.out W hW) _ rfl (Nat.le_trans HDT.out (by decide)) w.heap.size (HLL.out W hW).tab (HSZ.out W hW)
        have HDL : Hid (∀ W, Below w5.heap.size w5 W → Calls Tryz.prog 32 #[.agg #[.int .i64 gf, .int .i64 gs, .int .i64 gl, .int .i64 gp, .slice ga gn gc]] W (OutStr (deckT gf gs gl gp grs) W)) := fun W hW => deckLines_any W (⟨gf, gs, gl, gp, ga, gn, gc, grs⟩ : Deck) (HD.out W hW) w.heap.size (HLL.out W hW).tab (HSZ.out W hW)
        have HEQ1 : Hid (firstE (deckErr (⟨gf, gs, gl, gp, ga, gn, gc, grs⟩ : Deck)) (if isNumB n = true then 0 else 3) = rofE (⟨gf, gs, gl, gp, ga, gn, gc, grs⟩ : Deck) n) := (rof_first _ _).symm
        have HEQ2 : Hid (firstE (rofE (⟨gf, gs, gl, gp, ga, gn, gc, grs⟩ : Deck) n) (if inB talk 0 86400000 = true then 0 else 1) = priceE (⟨gf, gs, gl, gp, ga, gn, gc, grs⟩ : Deck) n talk) := (price_first _ _ _).symm
        clear HD hgl HDT hnl
        unfold RofPost at HRO
        unfold PricePost at HPR
        generalize rofE (⟨gf, gs, gl, gp, ga, gn, gc, grs⟩ : Deck) n = O1 at HRO HRF HEQ1 HEQ2
        generalize priceE (⟨gf, gs, gl, gp, ga, gn, gc, grs⟩ : Deck) n talk = O2 at HPR HPF HEQ2
        generalize priceA (⟨gf, gs, gl, gp, ga, gn, gc, grs⟩ : Deck) n talk = pa at HPR HPF
        unfold RatePost at HRF
        generalize (rofO (⟨gf, gs, gl, gp, ga, gn, gc, grs⟩ : Deck) n).isSome = os at HRO HRF
        generalize ((rofO (⟨gf, gs, gl, gp, ga, gn, gc, grs⟩ : Deck) n).getD noRate) = rx at HRO HRF
        obtain ⟨op, oq, ol⟩ := rx
        obtain ⟨px, ps⟩ := pa
        simp only at HRO HRF HPR HPF
        generalize (if isNumB n = true then (0 : Int) else 3) = FE at HFF HEQ1
        have HTX0 : Hid (deckErr (⟨gf, gs, gl, gp, ga, gn, gc, grs⟩ : Deck) = 0 → (if deckErr (⟨gf, gs, gl, gp, ga, gn, gc, grs⟩ : Deck) = 0 then deckT gf gs gl gp grs else []) = deckT gf gs gl gp grs) := fun h => if_pos h
        have HTX1 : Hid (deckErr (⟨gf, gs, gl, gp, ga, gn, gc, grs⟩ : Deck) ≠ 0 → (if deckErr (⟨gf, gs, gl, gp, ga, gn, gc, grs⟩ : Deck) = 0 then deckT gf gs gl gp grs else []) = []) := fun h => if_neg h
        generalize (if deckErr (⟨gf, gs, gl, gp, ga, gn, gc, grs⟩ : Deck) = 0 then deckT gf gs gl gp grs else []) = TX at HTX HTX0 HTX1
        generalize deckT gf gs gl gp grs = DT at HDL HTX0
        generalize deckErr (⟨gf, gs, gl, gp, ga, gn, gc, grs⟩ : Deck) = E1 at HF1 HCD HTX HTX0 HTX1 HEQ1
        have HB5 : Hid (Below w5.heap.size w5 w5) := Below.refl _ _
        have hbE : (E1 == E1) = true := by simp
        have HRX : Hid (w5.rangeAt X 0 [.int .i64 gf, .int .i64 gs, .int .i64 gl, .int .i64 gp, .slice ga gn gc]) := (HX.out.below HB5.out).rangeP
        as_aux_lemma =>
          go_wp2_with ((refine wpList_load_mid rfl 28 (.tmp 4) rfl X 0 rfl [.int .i64 gf, .int .i64 gs, .int .i64 gl, .int .i64 gp, .slice ga gn gc] _ HRX.out Tryz.underlying28 rfl Tryz.deckSz ?_))
          refine (HF1.out _ HB5.out).mono ?_
          rintro e w6 ⟨rfl, hb⟩
          have HB6 := Lib.hid (ext_trans HB5.out hb)
          clear hb HRX
          have HRX : Hid (w6.rangeAt X 0 [.int .i64 gf, .int .i64 gs, .int .i64 gl, .int .i64 gp, .slice ga gn gc]) := (HX.out.below HB6.out).rangeP
          as_aux_lemma =>
            go_wp2_with ((refine wpList_load_mid rfl 28 (.tmp 4) rfl X 0 rfl [.int .i64 gf, .int .i64 gs, .int .i64 gl, .int .i64 gp, .slice ga gn gc] _ HRX.out Tryz.underlying28 rfl Tryz.deckSz ?_))
            refine (HCD.out _ HB6.out).mono ?_
            rintro e w7 ⟨rfl, hb⟩
            have HB7 := Lib.hid (ext_trans HB6.out hb)
            clear hb HRX
            have HRX : Hid (w7.rangeAt X 0 [.int .i64 gf, .int .i64 gs, .int .i64 gl, .int .i64 gp, .slice ga gn gc]) := (HX.out.below HB7.out).rangeP
            as_aux_lemma =>
              go_wp2_with ((refine wpList_load_mid rfl 28 (.tmp 4) rfl X 0 rfl [.int .i64 gf, .int .i64 gs, .int .i64 gl, .int .i64 gp, .slice ga gn gc] _ HRX.out Tryz.underlying28 rfl Tryz.deckSz ?_))
              refine (HRO.out _ HB7.out).mono ?_
              rintro e w8 ⟨rfl, hb⟩
              have HB8 := Lib.hid (ext_trans HB7.out hb)
              clear hb HRX
              have hz0 := Blk.new w8 [.string ⟨#[]⟩, .int .i64 0, .bool false] 51
              have HTH : Hid (World.there (w8.alloc (.cells #[.string ⟨#[]⟩, .int .i64 0, .bool false] 51)) w8.heap.size 0 3) := hz0.th 3 (Nat.le_refl 3)
              have HR1 : Hid (Blk (World.setCells (w8.alloc (.cells #[.string ⟨#[]⟩, .int .i64 0, .bool false] 51)) w8.heap.size 0 [.string ⟨op.toArray⟩, .int .i64 oq, .bool ol]) w8.heap.size [.string ⟨op.toArray⟩, .int .i64 oq, .bool ol] 51) := hz0.put3 (.string ⟨op.toArray⟩) (.int .i64 oq) (.bool ol)
              have hA : Below w8.heap.size w8 (w8.alloc (.cells #[.string ⟨#[]⟩, .int .i64 0, .bool false] 51)) := ext_alloc (Below.refl _ _)
              have HB9 : Hid (Below w5.heap.size w5 (World.setCells (w8.alloc (.cells #[.string ⟨#[]⟩, .int .i64 0, .bool false] 51)) w8.heap.size 0 [.string ⟨op.toArray⟩, .int .i64 oq, .bool ol])) := below_put HB8.out.size (ext_trans HB8.out hA) _
              clear hz0 hA
              as_aux_lemma =>
                go_wp2_with (refine wpList_store_mid rfl 51 (.tmp 8) (.tmp 48) rfl w8.heap.size 0 #[.string ⟨op.toArray⟩, .int .i64 oq, .bool ol] rfl rfl HTH.out Tryz.rateSz (by simp [Value.oneCell']) ?_; generalize (World.setCells (w8.alloc (.cells #[.string ⟨#[]⟩, .int .i64 0, .bool false] 51)) w8.heap.size 0 [.string ⟨op.toArray⟩, .int .i64 oq, .bool ol]) = w9 at HR1 HB9 ⊢; clear HTH; refine Hid.out ?_)
                refine Lib.hid ?_
                generalize w8.heap.size = R1 at HR1 ⊢
                have HRX : Hid (w9.rangeAt X 0 [.int .i64 gf, .int .i64 gs, .int .i64 gl, .int .i64 gp, .slice ga gn gc]) := (HX.out.below HB9.out).rangeP
                as_aux_lemma =>
                  go_wp2_with ((refine wpList_load_mid rfl 28 (.tmp 4) rfl X 0 rfl [.int .i64 gf, .int .i64 gs, .int .i64 gl, .int .i64 gp, .slice ga gn gc] _ HRX.out Tryz.underlying28 rfl Tryz.deckSz ?_))
                  refine (HPR.out _ HB9.out).mono ?_
                  rintro e w10 ⟨rfl, hb⟩
                  have HB10 := Lib.hid (ext_trans HB9.out hb)
                  have HR1_ := Lib.hid (HR1.out.below hb)
                  clear HR1
                  have HR1 := HR1_
                  clear HR1_
                  clear hb HRX
                  as_aux_lemma =>
                    go_wp2_with (fail)
                    refine (HFF.out _ HB10.out).mono ?_
                    rintro e w11 ⟨rfl, hb⟩
                    have HB11 := Lib.hid (ext_trans HB10.out hb)
                    have HR1_ := Lib.hid (HR1.out.below hb)
                    clear HR1
                    have HR1 := HR1_
                    clear HR1_
                    clear hb
                    as_aux_lemma =>
                      go_wp2_with ((refine wpList_val rfl (bl_ldp2 _ (fun _ => rfl) _ _ 59 61 E1 FE rfl rfl rfl) ?_))
                      refine (or_any E1 FE w11.heap.size _ (by simp) (by go_simp) (by go_simp)).mono ?_
                      rintro e w' ⟨rfl, rfl⟩
                      rw [HEQ1.out]
                      have hA : Below w11.heap.size w11 (w11.alloc (.cells #[.int .i64 E1, .int .i64 FE] 31)) := ext_alloc (Below.refl _ _)
                      have HB12 := Lib.hid (ext_trans HB11.out hA)
                      have HR1_ := Lib.hid (HR1.out.below hA)
                      clear HR1
                      have HR1 := HR1_
                      clear HR1_
                      clear hA
                      generalize World.alloc w11 _ = w12 at HB12 HR1 ⊢
                      as_aux_lemma =>
                        go_upto_region 9 with (fail)
                        go_cut [15] (fun v wx => v = .int .i64 O2 ∧ Hid (Below w12.heap.size w12 wx))
                        case first =>
                          by_cases h1 : talk < 0
                          case pos =>
                            have hI : inB talk 0 86400000 = false := by unfold inB; rw [decide_eq_false (by omega)]; rfl
                            have hq := HEQ2.out
                            rw [hI, if_neg (by decide)] at hq
                            have HQ := Lib.hid hq
                            clear hq
                            as_aux_lemma =>
                              go_wp2_with fail
                              refine (whenP_t _).mono ?_
                              rintro e w' ⟨rfl, hw9⟩
                              subst hw9
                              as_aux_lemma =>
                                go_wp2_with ((refine wpList_val rfl (bl_ldp2 _ (fun _ => rfl) _ _ 64 71 O1 1 rfl rfl rfl) ?_))
                                refine (or_any O1 1 w12.heap.size _ (by simp) (by go_simp) (by go_simp)).mono ?_
                                rintro e w' ⟨rfl, rfl⟩
                                rw [HQ.out]
                                have hA : Hid (Below w12.heap.size w12 (w12.alloc (.cells #[.int .i64 O1, .int .i64 1] 31))) := ext_alloc (Below.refl _ _)
                                generalize World.alloc w12 _ = wz at hA ⊢
                                as_aux_lemma =>
                                  go_wp2_with fail
                                  go_meet
                                  exact ⟨rfl, hA.out⟩
                          case neg =>
                            by_cases h2 : 86400000 < talk
                            case pos =>
                              have hI : inB talk 0 86400000 = false := by unfold inB; rw [decide_eq_false (show ¬ talk ≤ 86400000 by omega), Bool.and_false]
                              have hq := HEQ2.out
                              rw [hI, if_neg (by decide)] at hq
                              have HQ := Lib.hid hq
                              clear hq
                              as_aux_lemma =>
                                go_wp2_with fail
                                refine (whenP_t _).mono ?_
                                rintro e w' ⟨rfl, hw9⟩
                                subst hw9
                                as_aux_lemma =>
                                  go_wp2_with ((refine wpList_val rfl (bl_ldp2 _ (fun _ => rfl) _ _ 64 71 O1 1 rfl rfl rfl) ?_))
                                  refine (or_any O1 1 w12.heap.size _ (by simp) (by go_simp) (by go_simp)).mono ?_
                                  rintro e w' ⟨rfl, rfl⟩
                                  rw [HQ.out]
                                  have hA : Hid (Below w12.heap.size w12 (w12.alloc (.cells #[.int .i64 O1, .int .i64 1] 31))) := ext_alloc (Below.refl _ _)
                                  generalize World.alloc w12 _ = wz at hA ⊢
                                  as_aux_lemma =>
                                    go_wp2_with fail
                                    go_meet
                                    exact ⟨rfl, hA.out⟩
                            case neg =>
                              have hI : inB talk 0 86400000 = true := by unfold inB; rw [decide_eq_true (show 0 ≤ talk by omega), decide_eq_true (show talk ≤ 86400000 by omega)]; rfl
                              have hq := HEQ2.out
                              rw [hI, if_pos rfl] at hq
                              have HQ := Lib.hid hq
                              clear hq
                              as_aux_lemma =>
                                go_wp2_with fail
                                refine (whenP_f _).mono ?_
                                rintro e w' ⟨rfl, hw9⟩
                                subst hw9
                                as_aux_lemma =>
                                  go_wp2_with ((refine wpList_val rfl (bl_ldp2 _ (fun _ => rfl) _ _ 64 71 O1 0 rfl rfl rfl) ?_))
                                  refine (or_any O1 0 w12.heap.size _ (by simp) (by go_simp) (by go_simp)).mono ?_
                                  rintro e w' ⟨rfl, rfl⟩
                                  rw [HQ.out]
                                  have hA : Hid (Below w12.heap.size w12 (w12.alloc (.cells #[.int .i64 O1, .int .i64 0] 31))) := ext_alloc (Below.refl _ _)
                                  generalize World.alloc w12 _ = wz at hA ⊢
                                  as_aux_lemma =>
                                    go_wp2_with fail
                                    go_meet
                                    exact ⟨rfl, hA.out⟩
                        case rest =>
                          obtain ⟨rfl, HBc⟩ := hcut
                          obtain ⟨w13, rfl⟩ : ∃ x : World, x = wc := ⟨_, rfl⟩
                          have HB13 := Lib.hid (ext_trans HB12.out HBc.out)
                          have HR1_ := Lib.hid (HR1.out.below HBc.out)
                          clear HR1
                          have HR1 := HR1_
                          clear HR1_
                          clear HBc HB12
                          as_aux_lemma =>
                            go_upto_if 83 with (fail)
                            go_cut [2] (fun v wx => v = .bool false ∧ Hid (Below w13.heap.size w13 wx))
                            case first =>
                              by_cases hE : O1 = 0
                              case pos =>
                                have HRF2 := Lib.hid (HRF.out hE)
                                subst hE
                                have HRX : Hid (w13.rangeAt X 0 [.int .i64 gf, .int .i64 gs, .int .i64 gl, .int .i64 gp, .slice ga gn gc]) := (HX.out.below HB13.out).rangeP
                                as_aux_lemma =>
                                  go_wp2_with ((refine wpList_load_mid rfl 28 (.tmp 4) rfl X 0 rfl [.int .i64 gf, .int .i64 gs, .int .i64 gl, .int .i64 gp, .slice ga gn gc] _ HRX.out Tryz.underlying28 rfl Tryz.deckSz ?_))
                                  refine (HRF2.out _ HB13.out).mono ?_
                                  rintro e wa ⟨hba, rfl⟩
                                  have HR1a := Lib.hid (HR1.out.below hba)
                                  have HBa := Lib.hid hba
                                  clear hba HRX HR1
                                  have hz0 := Blk.new wa [.string ⟨#[]⟩, .int .i64 0, .bool false] 51
                                  have HR1b : Hid (Blk (World.setCells (wa.alloc (.cells #[.string ⟨#[]⟩, .int .i64 0, .bool false] 51)) wa.heap.size 0 [.string ⟨op.toArray⟩, .int .i64 oq, .bool ol]) R1 [.string ⟨op.toArray⟩, .int .i64 oq, .bool ol] 51) := HR1a.out.below (below_put (Nat.le_refl _) (ext_alloc (Below.refl _ _)) _)
                                  have HTH : Hid (World.there (wa.alloc (.cells #[.string ⟨#[]⟩, .int .i64 0, .bool false] 51)) wa.heap.size 0 3) := hz0.th 3 (Nat.le_refl 3)
                                  have HR2 : Hid (Blk (World.setCells (wa.alloc (.cells #[.string ⟨#[]⟩, .int .i64 0, .bool false] 51)) wa.heap.size 0 [.string ⟨op.toArray⟩, .int .i64 oq, .bool ol]) wa.heap.size [.string ⟨op.toArray⟩, .int .i64 oq, .bool ol] 51) := hz0.put3 (.string ⟨op.toArray⟩) (.int .i64 oq) (.bool ol)
                                  have hA : Below wa.heap.size wa (wa.alloc (.cells #[.string ⟨#[]⟩, .int .i64 0, .bool false] 51)) := ext_alloc (Below.refl _ _)
                                  have HBb : Hid (Below w13.heap.size w13 (World.setCells (wa.alloc (.cells #[.string ⟨#[]⟩, .int .i64 0, .bool false] 51)) wa.heap.size 0 [.string ⟨op.toArray⟩, .int .i64 oq, .bool ol])) := below_put HBa.out.size (ext_trans HBa.out hA) _
                                  clear hz0 hA
                                  as_aux_lemma =>
                                    go_wp2_with (refine wpList_store_mid rfl 51 (.tmp 16) (.tmp 88) rfl wa.heap.size 0 #[.string ⟨op.toArray⟩, .int .i64 oq, .bool ol] rfl rfl HTH.out Tryz.rateSz (by simp [Value.oneCell']) ?_; generalize (World.setCells (wa.alloc (.cells #[.string ⟨#[]⟩, .int .i64 0, .bool false] 51)) wa.heap.size 0 [.string ⟨op.toArray⟩, .int .i64 oq, .bool ol]) = wb at HR2 HBb HR1b ⊢; clear HTH; refine Hid.out ?_)
                                    refine Lib.hid ?_
                                    generalize wa.heap.size = R2 at HR2 ⊢
                                    have HP1 : Hid (wb.rangeAt R1 0 [.string ⟨op.toArray⟩, .int .i64 oq, .bool ol]) := HR1b.out.rangeP
                                    have HP2 : Hid (wb.rangeAt R2 0 [.string ⟨op.toArray⟩, .int .i64 oq, .bool ol]) := HR2.out.rangeP
                                    have hr1 : (ol == ol) = true := by simp
                                    have hr2 : (os == os) = true := by simp
                                    as_aux_lemma =>
                                      go_wp2_with (first | (refine wpList_load_mid rfl 51 (.tmp 8) rfl R1 0 rfl [.string ⟨op.toArray⟩, .int .i64 oq, .bool ol] _ HP1.out Tryz.underlying51 rfl Tryz.rateSz ?_) | (refine wpList_load_mid rfl 51 (.tmp 16) rfl R2 0 rfl [.string ⟨op.toArray⟩, .int .i64 oq, .bool ol] _ HP2.out Tryz.underlying51 rfl Tryz.rateSz ?_))
                                      go_meet
                                      exact ⟨by simp, HBb.out⟩
                              case neg =>
                                have hb1 : (O1 == 0) = false := beq_eq_false_iff_ne.2 hE
                                as_aux_lemma =>
                                  go_wp2_with fail
                                  go_meet
                                  exact ⟨rfl, Below.refl _ _⟩
                            case rest =>
                              obtain ⟨rfl, HBc⟩ := hcut
                              obtain ⟨w14, rfl⟩ : ∃ x : World, x = wc := ⟨_, rfl⟩
                              have HB14 := Lib.hid (ext_trans HB13.out HBc.out)
                              clear HBc HB13
                              as_aux_lemma =>
                                go_upto_if 99 with (fail)
                                go_cut [2] (fun v wx => v = .bool false ∧ Hid (Below w14.heap.size w14 wx))
                                case first =>
                                  by_cases hE : O2 = 0
                                  case pos =>
                                    have HPF2 := Lib.hid (HPF.out hE)
                                    subst hE
                                    have HRX : Hid (w14.rangeAt X 0 [.int .i64 gf, .int .i64 gs, .int .i64 gl, .int .i64 gp, .slice ga gn gc]) := (HX.out.below HB14.out).rangeP
                                    have hr2 : (ps == ps) = true := by simp
                                    as_aux_lemma =>
                                      go_wp2_with ((refine wpList_load_mid rfl 28 (.tmp 4) rfl X 0 rfl [.int .i64 gf, .int .i64 gs, .int .i64 gl, .int .i64 gp, .slice ga gn gc] _ HRX.out Tryz.underlying28 rfl Tryz.deckSz ?_))
                                      refine (HPF2.out _ HB14.out).mono ?_
                                      rintro e wa ⟨rfl, hba⟩
                                      have HBa := Lib.hid hba
                                      clear hba HRX
                                      as_aux_lemma =>
                                        go_wp2_with fail
                                        go_meet
                                        exact ⟨rfl, HBa.out⟩
                                  case neg =>
                                    have hb1 : (O2 == 0) = false := beq_eq_false_iff_ne.2 hE
                                    as_aux_lemma =>
                                      go_wp2_with fail
                                      go_meet
                                      exact ⟨rfl, Below.refl _ _⟩
                                case rest =>
                                  obtain ⟨rfl, HBc⟩ := hcut
                                  obtain ⟨w15, rfl⟩ : ∃ x : World, x = wc := ⟨_, rfl⟩
                                  have HB15 := Lib.hid (ext_trans HB14.out HBc.out)
                                  clear HBc HB14
                                  have HRX : Hid (w15.rangeAt X 0 [.int .i64 gf, .int .i64 gs, .int .i64 gl, .int .i64 gp, .slice ga gn gc]) := (HX.out.below HB15.out).rangeP
                                  as_aux_lemma =>
                                    go_wp2_with ((refine wpList_load_mid rfl 28 (.tmp 4) rfl X 0 rfl [.int .i64 gf, .int .i64 gs, .int .i64 gl, .int .i64 gp, .slice ga gn gc] _ HRX.out Tryz.underlying28 rfl Tryz.deckSz ?_))
                                    refine (HTX.out _ HB15.out).mono ?_
                                    rintro e w16 ⟨rfl, hb⟩
                                    have HB16 := Lib.hid (ext_trans HB15.out hb)
                                    clear hb HRX
                                    as_aux_lemma =>
                                      go_upto_region 21 with (fail)
                                      go_cut [140] (fun v wx => v = .bool false ∧ Hid (Below w16.heap.size w16 wx))
                                      case first =>
                                        by_cases hE : E1 = 0
                                        case pos =>
                                          have hTE := HTX0.out hE
                                          have HDL2 := Lib.hid (HDL.out _ HB16.out)
                                          subst hE
                                          subst hTE
                                          have x0 := (HX.out.below HB16.out).cell 0 rfl
                                          have x1 := (HX.out.below HB16.out).cell 1 rfl
                                          have x2 := (HX.out.below HB16.out).cell 2 rfl
                                          have x3 := (HX.out.below HB16.out).cell 3 rfl
                                          have x4 := (HX.out.below HB16.out).cell 4 rfl
                                          as_aux_lemma =>
                                            go_wp2_with fail
                                            refine HDL2.out.mono ?_
                                            rintro e wa ⟨rfl, hba⟩
                                            have HBa := Lib.hid hba
                                            clear hba x0 x1 x2 x3 x4
                                            as_aux_lemma =>
                                              go_wp2_with fail
                                              go_meet
                                              exact ⟨rfl, HBa.out⟩
                                        case neg =>
                                          have hTE := HTX1.out hE
                                          subst hTE
                                          have hb1 : (E1 == 0) = false := beq_eq_false_iff_ne.2 hE
                                          have hb2 : (E1 != 0) = true := bne_iff_ne.2 hE
                                          as_aux_lemma =>
                                            go_wp2_with fail
                                            go_meet
                                            exact ⟨rfl, Below.refl _ _⟩
                                      case rest =>
                                        obtain ⟨rfl, HBc⟩ := hcut
                                        obtain ⟨w17, rfl⟩ : ∃ x : World, x = wc := ⟨_, rfl⟩
                                        have HB17 := Lib.hid (ext_trans HB16.out HBc.out)
                                        clear HBc HB16
                                        as_aux_lemma =>
                                          go_wp2_with fail
                                          refine (deckString_any w.heap.size (0 + 50 + 1 + 1) _ (HSS.out _ HB17.out) (by omega) (HLL.out _ HB17.out).tab).mono ?_
                                          rintro e w18 ⟨text, rfl, htl, hst, hk'⟩
                                          have htl : text.length ≤ 21000 := htl
                                          have hsz18 : w.heap.size ≤ w18.heap.size := Nat.le_trans (HSZ.out _ HB17.out) hk'.size
                                          have HL18 : Hid (LibsW w.heap.size w18) := (HLL.out _ HB17.out).keeps hk' (HSS.out _ HB17.out).lt
                                          have HFIN2 : Hid (∀ W, Below w18.heap.size w18 W → Below w.heap.size w W) := fun W hW => HKE.out _ W HB17.out (hk'.trans (Keeps.of_below hW))
                                          have HB18 : Hid (Below w18.heap.size w18 w18) := Below.refl _ _
                                          have HTT : Hid (text.length ≤ 25000) := Nat.le_trans htl (by decide)
                                          clear hst hk' htl HSS HLL HSZ HKE HFIN HB17 HX HDL HTX HTX0 HTX1 HF1 HCD HFF HRO HPR HEQ1 HEQ2 HRF HPF HTB
                                          have HLW : Hid (∀ W, Below w18.heap.size w18 W → LibsW w.heap.size W ∧ w.heap.size ≤ W.heap.size) := fun W hW => ⟨HL18.out.below hW hsz18, Nat.le_trans hsz18 hW.size⟩
                                          clear HL18 hsz18
                                          as_aux_lemma =>
                                            go_wp2_with (fail)
                                            refine (carRead_any text HTT.out w.heap.size _ (HLW.out _ HB18.out).1 (HLW.out _ HB18.out).2).mono ?_
                                            rintro e w19 ⟨st, k, b, hlt, a1, n1, c1, rfl, ho, hrs, hb⟩
                                            obtain ⟨q, hq⟩ : ∃ q, q = readX st k b := ⟨_, rfl⟩
                                            have HQ := Lib.hid hq
                                            have HLT := Lib.hid hlt
                                            rw [← hq] at ho hrs ⊢
                                            clear hq hlt
                                            obtain ⟨⟨qf, qs, ql, qp, qrs, qb, qd⟩, qi, qe⟩ := q
                                            simp only at ho hrs ⊢
                                            obtain ⟨_, _, hn1⟩ := row_of_own ho hrs
                                            subst hn1
                                            have HO19 := Lib.hid ho
                                            have HRS := Lib.hid hrs
                                            have HB19 := Lib.hid (ext_trans HB18.out hb)
                                            clear ho hrs hb HB18
                                            have hz0 := Blk.new w19 [.int .i64 0, .int .i64 0, .int .i64 0, .int .i64 0, .slice none 0 0] 28
                                            have HTH : Hid (World.there (w19.alloc (.cells #[.int .i64 0, .int .i64 0, .int .i64 0, .int .i64 0, .slice none 0 0] 28)) w19.heap.size 0 5) := hz0.th 5 (Nat.le_refl 5)
                                            have HY : Hid (Blk (World.setCells (w19.alloc (.cells #[.int .i64 0, .int .i64 0, .int .i64 0, .int .i64 0, .slice none 0 0] 28)) w19.heap.size 0 [.int .i64 qf, .int .i64 qs, .int .i64 ql, .int .i64 qp, .slice a1 qrs.length c1]) w19.heap.size [.int .i64 qf, .int .i64 qs, .int .i64 ql, .int .i64 qp, .slice a1 qrs.length c1] 28) := hz0.set5 (.int .i64 qf) (.int .i64 qs) (.int .i64 ql) (.int .i64 qp) (.slice a1 qrs.length c1)
                                            have hA : Below w19.heap.size w19 (w19.alloc (.cells #[.int .i64 0, .int .i64 0, .int .i64 0, .int .i64 0, .slice none 0 0] 28)) := ext_alloc (Below.refl _ _)
                                            have HB20 : Hid (Below w18.heap.size w18 (World.setCells (w19.alloc (.cells #[.int .i64 0, .int .i64 0, .int .i64 0, .int .i64 0, .slice none 0 0] 28)) w19.heap.size 0 [.int .i64 qf, .int .i64 qs, .int .i64 ql, .int .i64 qp, .slice a1 qrs.length c1])) := below_put HB19.out.size (ext_trans HB19.out hA) _
                                            have HO20 : Hid (World.ownsRow (World.setCells (w19.alloc (.cells #[.int .i64 0, .int .i64 0, .int .i64 0, .int .i64 0, .slice none 0 0] 28)) w19.heap.size 0 [.int .i64 qf, .int .i64 qs, .int .i64 ql, .int .i64 qp, .slice a1 qrs.length c1]) w18.heap.size 51 3 (.slice a1 qrs.length c1) qrs.length ((qrs.map Rate.cells).flatten)) := own_keep HO19.out (below_put (Nat.le_refl _) hA _)
                                            clear hz0 hA
                                            as_aux_lemma =>
                                              go_wp2_with (refine wpList_store_mid rfl 28 (.tmp 22) (.tmp 146) rfl w19.heap.size 0 #[.int .i64 qf, .int .i64 qs, .int .i64 ql, .int .i64 qp, .slice a1 qrs.length c1] rfl rfl HTH.out Tryz.deckSz (by simp [Value.oneCell']) ?_; generalize (World.setCells (w19.alloc (.cells #[.int .i64 0, .int .i64 0, .int .i64 0, .int .i64 0, .slice none 0 0] 28)) w19.heap.size 0 [.int .i64 qf, .int .i64 qs, .int .i64 ql, .int .i64 qp, .slice a1 qrs.length c1]) = w20 at HY HB20 HO20 ⊢; clear HTH; refine Hid.out ?_)
                                              refine Lib.hid ?_
                                              generalize w19.heap.size = Y at HY ⊢
                                              clear HO19 HB19
                                              as_aux_lemma =>
                                                go_wp2_with (fail)
                                                refine (deckRead_any text HTT.out w.heap.size _ (HLW.out _ HB20.out).1 (HLW.out _ HB20.out).2).mono ?_
                                                rintro e w21 ⟨st2, k2, b2, hlt, a2, n2, c2, rfl, ho, hrs, hb⟩
                                                have hqq := lines_same hlt HLT.out
                                                injection hqq with q1 q2
                                                injection q2 with q2 q3
                                                subst q1 q2 q3
                                                rw [← HQ.out] at ho hrs ⊢
                                                simp only at ho hrs ⊢
                                                obtain ⟨_, _, hn1⟩ := row_of_own ho hrs
                                                subst hn1
                                                have HO21 := Lib.hid ho
                                                have HP21 := Lib.hid (own_keep HO20.out hb)
                                                have HY21 := Lib.hid (HY.out.below hb)
                                                have HB21 := Lib.hid (ext_trans HB20.out hb)
                                                clear ho hrs hb HB20 HO20 HY HLT HQ hlt
                                                have hz0 := Blk.new w21 [.int .i64 0, .int .i64 0, .int .i64 0, .int .i64 0, .slice none 0 0] 28
                                                have HTH : Hid (World.there (w21.alloc (.cells #[.int .i64 0, .int .i64 0, .int .i64 0, .int .i64 0, .slice none 0 0] 28)) w21.heap.size 0 5) := hz0.th 5 (Nat.le_refl 5)
                                                have HZ : Hid (Blk (World.setCells (w21.alloc (.cells #[.int .i64 0, .int .i64 0, .int .i64 0, .int .i64 0, .slice none 0 0] 28)) w21.heap.size 0 [.int .i64 qf, .int .i64 qs, .int .i64 ql, .int .i64 qp, .slice a2 qrs.length c2]) w21.heap.size [.int .i64 qf, .int .i64 qs, .int .i64 ql, .int .i64 qp, .slice a2 qrs.length c2] 28) := hz0.set5 (.int .i64 qf) (.int .i64 qs) (.int .i64 ql) (.int .i64 qp) (.slice a2 qrs.length c2)
                                                have hA : Below w21.heap.size w21 (w21.alloc (.cells #[.int .i64 0, .int .i64 0, .int .i64 0, .int .i64 0, .slice none 0 0] 28)) := ext_alloc (Below.refl _ _)
                                                have HB22 : Hid (Below w18.heap.size w18 (World.setCells (w21.alloc (.cells #[.int .i64 0, .int .i64 0, .int .i64 0, .int .i64 0, .slice none 0 0] 28)) w21.heap.size 0 [.int .i64 qf, .int .i64 qs, .int .i64 ql, .int .i64 qp, .slice a2 qrs.length c2])) := below_put HB21.out.size (ext_trans HB21.out hA) _
                                                have HO22 : Hid (World.ownsRow (World.setCells (w21.alloc (.cells #[.int .i64 0, .int .i64 0, .int .i64 0, .int .i64 0, .slice none 0 0] 28)) w21.heap.size 0 [.int .i64 qf, .int .i64 qs, .int .i64 ql, .int .i64 qp, .slice a2 qrs.length c2]) w20.heap.size 51 3 (.slice a2 qrs.length c2) qrs.length ((qrs.map Rate.cells).flatten)) := own_keep HO21.out (below_put (Nat.le_refl _) hA _)
                                                have HP22 : Hid (World.ownsRow (World.setCells (w21.alloc (.cells #[.int .i64 0, .int .i64 0, .int .i64 0, .int .i64 0, .slice none 0 0] 28)) w21.heap.size 0 [.int .i64 qf, .int .i64 qs, .int .i64 ql, .int .i64 qp, .slice a2 qrs.length c2]) w18.heap.size 51 3 (.slice a1 qrs.length c1) qrs.length ((qrs.map Rate.cells).flatten)) := own_keep HP21.out (below_put (Nat.le_refl _) hA _)
                                                have HY22 : Hid (Blk (World.setCells (w21.alloc (.cells #[.int .i64 0, .int .i64 0, .int .i64 0, .int .i64 0, .slice none 0 0] 28)) w21.heap.size 0 [.int .i64 qf, .int .i64 qs, .int .i64 ql, .int .i64 qp, .slice a2 qrs.length c2]) Y [.int .i64 qf, .int .i64 qs, .int .i64 ql, .int .i64 qp, .slice a1 qrs.length c1] 28) := HY21.out.below (below_put (Nat.le_refl _) hA _)
                                                clear hz0 hA
                                                as_aux_lemma =>
                                                  go_wp2_with (refine wpList_store_mid rfl 28 (.tmp 24) (.tmp 152) rfl w21.heap.size 0 #[.int .i64 qf, .int .i64 qs, .int .i64 ql, .int .i64 qp, .slice a2 qrs.length c2] rfl rfl HTH.out Tryz.deckSz (by simp [Value.oneCell']) ?_; generalize (World.setCells (w21.alloc (.cells #[.int .i64 0, .int .i64 0, .int .i64 0, .int .i64 0, .slice none 0 0] 28)) w21.heap.size 0 [.int .i64 qf, .int .i64 qs, .int .i64 ql, .int .i64 qp, .slice a2 qrs.length c2]) = w22 at HZ HB22 HO22 HP22 HY22 ⊢; clear HTH; refine Hid.out ?_)
                                                  refine Lib.hid ?_
                                                  generalize w21.heap.size = Z at HZ ⊢
                                                  clear HO21 HP21 HY21 HB21
                                                  have HRY : Hid (w22.rangeAt Y 0 [.int .i64 qf, .int .i64 qs, .int .i64 ql, .int .i64 qp, .slice a1 qrs.length c1]) := HY22.out.rangeP
                                                  have HRZ : Hid (w22.rangeAt Z 0 [.int .i64 qf, .int .i64 qs, .int .i64 ql, .int .i64 qp, .slice a2 qrs.length c2]) := HZ.out.rangeP
                                                  have HSD : Hid (Calls Tryz.prog 10 #[.agg #[.int .i64 qf, .int .i64 qs, .int .i64 ql, .int .i64 qp, .slice a1 qrs.length c1], .agg #[.int .i64 qf, .int .i64 qs, .int .i64 ql, .int .i64 qp, .slice a2 qrs.length c2]] w22 fun e w' => e = .returned (.bool true) ∧ Below w22.heap.size w22 w') := sameDeck_any w22 qf qs ql qp a1 a2 _ c1 c2 qrs (row_of_own HP22.out HRS.out).1 (row_of_own HO22.out HRS.out).1
                                                  have y0 := HY22.out.cell 0 rfl
                                                  have z0 := HZ.out.cell 0 rfl
                                                  have y1 := HY22.out.cell 1 rfl
                                                  have z1 := HZ.out.cell 1 rfl
                                                  have y2 := HY22.out.cell 2 rfl
                                                  have z2 := HZ.out.cell 2 rfl
                                                  have y3 := HY22.out.cell 3 rfl
                                                  have z3 := HZ.out.cell 3 rfl
                                                  have y4 := HY22.out.cell 4 rfl
                                                  have z4 := HZ.out.cell 4 rfl
                                                  clear HP22 HO22 HRS HY22 HZ HRY HRZ
                                                  as_aux_lemma =>
                                                    go_wp2_with fail
                                                    refine HSD.out.mono ?_
                                                    rintro e w23 ⟨rfl, hb⟩
                                                    have HB23 := Lib.hid (ext_trans HB22.out hb)
                                                    clear hb HSD HB22 y0 y1 y2 y3 y4 z0 z1 z2 z3 z4
                                                    as_aux_lemma =>
                                                      go_wp2_with fail
                                                      refine (carried_any _).mono ?_
                                                      rintro e w24 ⟨rfl, hb⟩
                                                      have HB24 := Lib.hid (ext_trans HB23.out hb)
                                                      clear hb
                                                      as_aux_lemma =>
                                                        go_wp2_with fail
                                                        go_ret
                                                        exact ⟨rfl, HFIN2.out _ HB24.out⟩
end Go.Proofs.YtacekbbndamkmaaGreatDoor
