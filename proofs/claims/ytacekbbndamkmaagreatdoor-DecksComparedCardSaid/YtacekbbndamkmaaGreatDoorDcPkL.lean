/- What is proved here: lemmas and contracts for the statement, put together out of smaller texts (LawDkm). No condition beyond those stated. -/
import Derived.Test.YtacekbbndamkmaaGreatDoorDcPkH
import Derived.Test.YtacekbbndamkmaaGreatDoorDcPkI
import Derived.Test.YtacekbbndamkmaaGreatDoorDcPkJ
import Derived.Test.YtacekbbndamkmaaGreatDoorDcPkK
import Derived.Test.YtacekbbndamkmaaGreatDoorDcPkA
import Derived.Test.YtacekbbndamkmaaGreatDoorDcPkC
import Derived.Deep.DeepCutAuto
set_option linter.unusedVariables false
set_option linter.unusedSimpArgs false
namespace Go.Proofs.YtacekbbndamkmaaGreatDoor
open Go.RowKit

abbrev EachR (l : List Rate) : Prop := ∀ i, i < l.length → (l.getD i noRate).p.length ≤ 100 ∧ -2000000000000 ≤ (l.getD i noRate).price ∧ (l.getD i noRate).price ≤ 2000000000000
theorem same_own {w : World} {base base2 : Nat} {a a2 : Option Addr} {n n2 c c2 : Nat} {rates : List Rate} (f s l p : Int) (h : w.ownsRow base 51 3 (.slice a n c) rates.length ((rates.map Rate.cells).flatten)) (h2 : w.ownsRow base2 51 3 (.slice a2 n2 c2) rates.length ((rates.map Rate.cells).flatten)) (hf : rates.length ≤ 100) (he : EachR rates) : Calls Tryz.prog 10 #[.agg #[.int .i64 f, .int .i64 s, .int .i64 l, .int .i64 p, .slice a n c], .agg #[.int .i64 f, .int .i64 s, .int .i64 l, .int .i64 p, .slice a2 n2 c2]] w fun e w' => e = .returned (.bool true) ∧ Below w.heap.size w w' := by
  obtain ⟨a9, c9, e9, _, hr⟩ := rate_of_own h hf he
  obtain ⟨b9, d9, f9, _, hs⟩ := rate_of_own h2 hf he
  injection e9 with e1 e2 e3
  injection f9 with f1 f2 f3
  subst e1 e2 e3 f1 f2 f3
  exact sameDeck_any w f s l p _ _ _ _ _ rates hr hs
theorem equal_own {w : World} {base base2 : Nat} {v v2 : Value} {rates : List Rate} (h : w.ownsRow base 51 3 v rates.length ((rates.map Rate.cells).flatten)) (h2 : w.ownsRow base2 51 3 v2 rates.length ((rates.map Rate.cells).flatten)) (hf : rates.length ≤ 100) (he : EachR rates) : Calls Tryz.prog 19 #[v, v2] w fun e w' => e = .returned (.bool true) ∧ Below w.heap.size w w' := by
  obtain ⟨a9, c9, rfl, _, hr⟩ := rate_of_own h hf he
  obtain ⟨b9, d9, rfl, _, hs⟩ := rate_of_own h2 hf he
  exact equalR_any w _ _ _ _ _ rates hr hs
structure Dv where
  f : Int
  s : Int
  l : Int
  p : Int
  rs : List Rate
def zeroV : Dv := ⟨0, 0, 0, 0, []⟩
def leastDv (d : Deck) (E : Int) : Dv := if E = 0 then ⟨d.from_, d.setup, d.least, d.step, leastR d.rates⟩ else zeroV
def raiseDv (d : Deck) (part : Int) (E : Int) : Dv := if E = 0 then ⟨d.from_, upD (d.setup * (1000 + part)) 1000, d.least, d.step, d.rates.map (raz part)⟩ else zeroV
def DvOk (d : Dv) : Prop := d.rs.length ≤ 100 ∧ EachR d.rs
theorem zero_ok : DvOk zeroV := ⟨by decide, fun i hi => by cases hi⟩
theorem each_filter {w : World} {a : Option Addr} {n : Nat} {rs us : List Rate} (h : RateRow w a n rs) (hs : ∀ r ∈ us, r ∈ rs) : EachR us := fun i hi => rate_mem h _ (hs _ (mem_getD noRate hi))
theorem least_mem {rs : List Rate} : ∀ r ∈ leastR rs, r ∈ rs := fun r hr => by
  unfold leastR usedR at hr
  exact (List.mem_filter.1 (List.mem_filter.1 hr).1).1
theorem leastDv_ok {w : World} {d : Deck} (hd : DeckFine w d) (E : Int) : DvOk (leastDv d E) := by
  unfold leastDv
  split
  · refine ⟨Nat.le_trans (least_few _) ?_, each_filter hd.row least_mem⟩
    rw [← hd.row.len]; exact hd.row.few
  · exact zero_ok
theorem leastD_any (w : World) (d : Deck) (hd : DeckFine w d) : Calls Tryz.prog 9 #[.agg d.cells.toArray] w (DeckPostE (leastDv d (deckErr d)).f (leastDv d (deckErr d)).s (leastDv d (deckErr d)).l (leastDv d (deckErr d)).p (leastDv d (deckErr d)).rs (deckErr d) w) := by
  have h := carLeast_any w d hd _ rfl
  unfold leastDv
  by_cases hE : deckErr d = 0
  · rw [if_pos hE] at h ⊢; rw [hE]; exact h
  · rw [if_neg hE] at h ⊢; exact h
theorem raiseD_any (w : World) (d : Deck) (hd : DeckFine w d) (part : Int) : Calls Tryz.prog 21 #[.agg d.cells.toArray, .int .i64 part] w (DeckPostE (raiseDv d part (raiseE d part)).f (raiseDv d part (raiseE d part)).s (raiseDv d part (raiseE d part)).l (raiseDv d part (raiseE d part)).p (raiseDv d part (raiseE d part)).rs (raiseE d part) w) := by
  have h := carRaise_any w d hd part _ rfl
  unfold raiseDv
  by_cases hE : raiseE d part = 0
  · rw [if_pos hE] at h ⊢; rw [hE]; exact h
  · rw [if_neg hE] at h ⊢; exact h
def partE (d : Deck) (part : Int) : Int := firstE (deckErr d) (if inB part (-1000) 10000 = true then 0 else 1)
theorem partE_zero {d : Deck} {part : Int} (h : partE d part = 0) : deckErr d = 0 ∧ (-1000 ≤ part ∧ part ≤ 10000) ∧ raiseE d part = deckErr (raisedD d part) := by
  obtain ⟨h1, h2⟩ := first_both h
  have hI : inB part (-1000) 10000 = true := by
    by_cases hI : inB part (-1000) 10000 = true
    · exact hI
    · rw [if_neg hI] at h2; cases h2
  refine ⟨h1, by unfold inB at hI; simpa using hI, ?_⟩
  unfold raiseE
  rw [if_neg (by simp [h1]), if_neg (by rw [hI]; decide)]
theorem partE_bad {d : Deck} {part : Int} (h : partE d part ≠ 0) : raiseE d part = partE d part := by
  unfold raiseE
  unfold partE firstE at h ⊢
  generalize deckErr (raisedD d part) = x at *
  generalize inB part (-1000) 10000 = b at *
  generalize deckErr d = y at *
  by_cases h1 : y = 0
  · subst h1
    cases b
    · rfl
    · exact absurd rfl h
  · rw [if_pos h1, if_pos h1]
set_option maxRecDepth 100000 in
theorem raiseDv_ok {w : World} {d : Deck} (hd : DeckFine w d) (part : Int) : DvOk (raiseDv d part (raiseE d part)) := by
  unfold raiseDv
  split
  · rename_i h
    by_cases hp : partE d part = 0
    · obtain ⟨h1, h2, _⟩ := partE_zero hp
      have hg := deck_good (Nat.le_trans (by rw [← hd.row.len]; exact hd.row.few) (by decide)) h1
      refine ⟨?_, ra_each hd.row hg.each h2⟩
      show (List.map _ _).length ≤ 100
      rw [List.length_map, ← hd.row.len]; exact hd.row.few
    · rw [partE_bad hp] at h; exact absurd h hp
  · exact zero_ok
set_option maxRecDepth 100000 in
theorem raisedFault {w W : World} {d : Deck} (hd : DeckFine w d) {part : Int} (h1 : deckErr d = 0) (h2 : -1000 ≤ part ∧ part ≤ 10000) {base : Nat} {a : Option Addr} {n c : Nat} (ho : W.ownsRow base 51 3 (.slice a n c) (d.rates.map (raz part)).length (((d.rates.map (raz part)).map Rate.cells).flatten)) : Calls Tryz.prog 7 #[.agg #[.int .i64 d.from_, .int .i64 (upD (d.setup * (1000 + part)) 1000), .int .i64 d.least, .int .i64 d.step, .slice a n c]] W (ErrPost (deckErr (raisedD d part)) W) := by
  have hg := deck_good (Nat.le_trans (by rw [← hd.row.len]; exact hd.row.few) (by decide)) h1
  have hl : (d.rates.map (raz part)).length ≤ 100 := by rw [List.length_map, ← hd.row.len]; exact hd.row.few
  obtain ⟨a9, c9, e9, hc9, hr9⟩ := rate_of_own ho hl (ra_each hd.row hg.each h2)
  injection e9 with e1 e2 e3
  subst e1 e2 e3
  have hu := upD_bound hg.h1 h2
  have hfine : DeckFine W ⟨d.from_, upD (d.setup * (1000 + part)) 1000, d.least, d.step, a, _, c, d.rates.map (raz part)⟩ := ⟨hr9, hc9, hd.b1, ⟨Int.le_trans (by decide) hu.1, Int.le_trans hu.2 (by decide)⟩, hd.b3, hd.b4⟩
  have h9 := deckFault_any W ⟨d.from_, upD (d.setup * (1000 + part)) 1000, d.least, d.step, a, _, c, d.rates.map (raz part)⟩ hfine
  rw [deckErr_row _ _ _ _ a d.ra _ d.rn c d.rc] at h9
  exact h9
theorem when_t (w : World) : Calls Tryz.prog 16 #[.bool true, .int .i64 1] w fun r w' => r = .returned (.int .i64 1) ∧ w = w' := when_l true 1 w
theorem when_f (w : World) : Calls Tryz.prog 16 #[.bool false, .int .i64 1] w fun r w' => r = .returned (.int .i64 0) ∧ w = w' := when_l false 1 w
theorem diff_few {a b : List Rate} : (diffV a b).length ≤ a.length + b.length := by
  unfold diffV
  refine Nat.le_trans (List.length_filter_le _ _) (Nat.le_trans (once_len _) ?_)
  rw [List.length_append, List.length_map, List.length_map]
  exact Nat.le_refl _
theorem best_ok {w : World} {a b : Option Addr} {n m : Nat} {rs ks : List Rate} (h : RateRow w a n rs) (h2 : RateRow w b m ks) (h100 : rs.length + ks.length ≤ 100) : (leastR (bestV rs ks)).length ≤ 100 ∧ EachR (leastR (bestV rs ks)) := by
  refine ⟨Nat.le_trans (least_few _) (best_few h100), fun i hi => ?_⟩
  obtain ⟨j, hj, e⟩ := List.getElem_of_mem (least_mem _ (mem_getD noRate hi))
  have := best_each h h2 j hj
  rw [List.getD_eq_getElem?_getD, List.getElem?_eq_getElem hj] at this
  rw [← e]; exact this
theorem below_le {b c : Nat} {w w' : World} (h : Below c w w') (hb : b ≤ c) : Below b w w' := ⟨h.os, h.tape, h.output, h.size, fun k hk => h.block k (by omega)⟩
theorem bl_ldk0 (e : Operand → Value) (he : ∀ v, e (.const v) = v) (o : Oper) (w : World)  (z0 : Int) (z1 : Int) (z2 : Int) (z3 : Int) (z4 : Int) (ho : o.op = .buildSlice 22 5 #[(0, .const (.int .i64 z0)), (1, .const (.int .i64 z1)), (2, .const (.int .i64 z2)), (3, .const (.int .i64 z3)), (4, .const (.int .i64 z4))])  :
   (execOp e o).run Tryz.prog w = .ok (.value (.slice (some ⟨w.heap.size, 0, none⟩) 5 5)) (w.alloc (.cells #[.int .i64 z0, .int .i64 z1, .int .i64 z2, .int .i64 z3, .int .i64 z4] 3)) := by
  unfold execOp
  rw [ho]
  simp only [List.map_toArray, List.map_cons, List.map_nil, he]
  kernel_rfl
theorem bl_ldk1 (e : Operand → Value) (he : ∀ v, e (.const v) = v) (o : Oper) (w : World)  (z0 : Int) (z1 : Int) (z2 : Int) (z3 : Int) (z4 : Int) (z5 : Int) (z6 : Int) (ho : o.op = .buildSlice 22 7 #[(0, .const (.int .i64 z0)), (1, .const (.int .i64 z1)), (2, .const (.int .i64 z2)), (3, .const (.int .i64 z3)), (4, .const (.int .i64 z4)), (5, .const (.int .i64 z5)), (6, .const (.int .i64 z6))])  :
   (execOp e o).run Tryz.prog w = .ok (.value (.slice (some ⟨w.heap.size, 0, none⟩) 7 7)) (w.alloc (.cells #[.int .i64 z0, .int .i64 z1, .int .i64 z2, .int .i64 z3, .int .i64 z4, .int .i64 z5, .int .i64 z6] 3)) := by
  unfold execOp
  rw [ho]
  simp only [List.map_toArray, List.map_cons, List.map_nil, he]
  kernel_rfl
theorem bl_ldk2 (e : Operand → Value) (he : ∀ v, e (.const v) = v) (o : Oper) (w : World) (i0 : Nat) (i1 : Nat) (z0 : Int) (z1 : Int) (ho : o.op = .buildSlice 82 2 #[(0, .tmp i0), (1, .tmp i1)]) (h0 : e (.tmp i0) = .int .i64 z0) (h1 : e (.tmp i1) = .int .i64 z1) :
   (execOp e o).run Tryz.prog w = .ok (.value (.slice (some ⟨w.heap.size, 0, none⟩) 2 2)) (w.alloc (.cells #[.int .i64 z0, .int .i64 z1] 31)) := by
  unfold execOp
  rw [ho]
  simp only [List.map_toArray, List.map_cons, List.map_nil, h0, h1]
  kernel_rfl
set_option maxRecDepth 100000 in
set_option maxHeartbeats 80000000 in
theorem decks_true (w : World) (a0 : Option Addr) (len cap : Nat) (zs : List Int) (hr : ArgRow w a0 len cap zs) :
    Calls Tryz.prog 3 #[.slice a0 len cap] w fun e w' => e = .returned (.bool true) ∧ Below w.heap.size w w' := by
  have HS0 := Lib.hid (stream_start hr)
  have HEND : Hid (∀ W, Keeps w.heap.size (w.alloc (.cells #[.slice a0 len cap, .int .i64 0] 25)) W → Below w.heap.size w W) := fun W h => law_end h
  have hsz : w.heap.size < (w.alloc (.cells #[.slice a0 len cap, .int .i64 0] 25)).heap.size := by simp
  clear hr
  go_enter Tryz.func3, Tryz.ntmps3
  go_wp2_with fail
  refine (deck_any w.heap.size 0 _ HS0.out (by omega)).mono ?_
  rintro e w1 ⟨d1, he, ho, hst, hk'⟩
  obtain ⟨gf, gs, gl, gp, ga, gn, gc, grs⟩ := d1
  have he2 : e = .returned (.agg #[.int .i64 gf, .int .i64 gs, .int .i64 gl, .int .i64 gp, .slice ga gn gc]) := he
  subst he2
  clear he
  have HDA : Hid (∀ W, Keeps w.heap.size w1 W → DeckFine W (⟨gf, gs, gl, gp, ga, gn, gc, grs⟩ : Deck)) := fun W hW => (ho.keeps hW hsz).fine
  have hgl : grs.length ≤ 50 := ho.ok.1
  have HS1 := Lib.hid hst
  have HK1 := Lib.hid hk'
  have hsz1 : w.heap.size < w1.heap.size := Nat.lt_of_lt_of_le hsz hk'.size
  clear ho hst hk' HS0 hsz
  as_aux_lemma =>
    go_wp2_with fail
    refine (deck_any w.heap.size (0 + 50) _ HS1.out (by omega)).mono ?_
    rintro e w2 ⟨d2, he, ho, hst, hk'⟩
    obtain ⟨kf, ks, kl, kp, ka, kn, kc, krs⟩ := d2
    have he2 : e = .returned (.agg #[.int .i64 kf, .int .i64 ks, .int .i64 kl, .int .i64 kp, .slice ka kn kc]) := he
    subst he2
    clear he
    have HDB : Hid (∀ W, Keeps w.heap.size w2 W → DeckFine W (⟨gf, gs, gl, gp, ga, gn, gc, grs⟩ : Deck) ∧ DeckFine W (⟨kf, ks, kl, kp, ka, kn, kc, krs⟩ : Deck)) := fun W hW => ⟨HDA.out W (hk'.trans hW), (ho.keeps hW hsz1).fine⟩
    have hkl : krs.length ≤ 50 := ho.ok.1
    have HS2 := Lib.hid hst
    have HK2 := Lib.hid (HK1.out.trans hk')
    clear ho hst hk' HS1 HK1 HDA hsz1
    as_aux_lemma =>
      go_wp2_with ((refine wpList_val rfl (bl_ldk0 _ (fun _ => rfl) _ _  0 30000 61000 ((-1)) 86400001 rfl) ?_))
      refine (pick_lit w.heap.size (0 + 50 + 50) [0, 30000, 61000, -1, 86400001] (fun x => -1 ≤ x ∧ x ≤ 86400001) _ _ _ HS2.out (by omega) rfl rfl (by decide) (by decide) (by decide)).mono ?_
      rintro e w3 ⟨talk, rfl, hz, hst, hk'⟩
      have HTB := Lib.hid hz
      have HS3 := Lib.hid hst
      have HK3 := Lib.hid (HK2.out.trans hk')
      have HD3 : Hid (∀ W, Keeps w.heap.size w3 W → DeckFine W (⟨gf, gs, gl, gp, ga, gn, gc, grs⟩ : Deck) ∧ DeckFine W (⟨kf, ks, kl, kp, ka, kn, kc, krs⟩ : Deck)) := fun W hW => HDB.out W (hk'.trans hW)
      clear hz hst hk' HS2 HK2 HDB
      as_aux_lemma =>
        go_wp2_with ((refine wpList_val rfl (bl_ldk1 _ (fun _ => rfl) _ _  0 100 ((-500)) ((-1000)) 10000 10001 ((-1001)) rfl) ?_))
        refine (pick_lit w.heap.size (0 + 50 + 50 + 1) [0, 100, -500, -1000, 10000, 10001, -1001] (fun x => -1001 ≤ x ∧ x ≤ 10001) _ _ _ HS3.out (by omega) rfl rfl (by decide) (by decide) (by decide)).mono ?_
        rintro e w4 ⟨part, rfl, hz, hst, hk'⟩
        have HPB := Lib.hid hz
        have HK4 := Lib.hid (HK3.out.trans hk')
        have HD4 : Hid (∀ W, Keeps w.heap.size w4 W → DeckFine W (⟨gf, gs, gl, gp, ga, gn, gc, grs⟩ : Deck) ∧ DeckFine W (⟨kf, ks, kl, kp, ka, kn, kc, krs⟩ : Deck)) := fun W hW => HD3.out W (hk'.trans hW)
        clear hz hst hk' HS3 HK3 HD3
        have hx0 : Blk ((w4.alloc (.cells #[.int .i64 0, .int .i64 0, .int .i64 0, .int .i64 0, .slice none 0 0] 28)).alloc (.cells #[.int .i64 0, .int .i64 0, .int .i64 0, .int .i64 0, .slice none 0 0] 28)) w4.heap.size [.int .i64 0, .int .i64 0, .int .i64 0, .int .i64 0, .slice none 0 0] 28 := (Blk.new w4 _ _).alloc _
        have hy0 : Blk ((w4.alloc (.cells #[.int .i64 0, .int .i64 0, .int .i64 0, .int .i64 0, .slice none 0 0] 28)).alloc (.cells #[.int .i64 0, .int .i64 0, .int .i64 0, .int .i64 0, .slice none 0 0] 28)) (w4.heap.size + 1) [.int .i64 0, .int .i64 0, .int .i64 0, .int .i64 0, .slice none 0 0] 28 := by
          have := Blk.new (w4.alloc (.cells #[.int .i64 0, .int .i64 0, .int .i64 0, .int .i64 0, .slice none 0 0] 28)) [.int .i64 0, .int .i64 0, .int .i64 0, .int .i64 0, .slice none 0 0] 28
          rw [show (w4.alloc (.cells #[.int .i64 0, .int .i64 0, .int .i64 0, .int .i64 0, .slice none 0 0] 28)).heap.size = w4.heap.size + 1 by simp] at this
          exact this
        have HTH1 : Hid (World.there ((w4.alloc (.cells #[.int .i64 0, .int .i64 0, .int .i64 0, .int .i64 0, .slice none 0 0] 28)).alloc (.cells #[.int .i64 0, .int .i64 0, .int .i64 0, .int .i64 0, .slice none 0 0] 28)) w4.heap.size 0 5) := hx0.th 5 (Nat.le_refl 5)
        have HTH2 : Hid (World.there (World.setCells ((w4.alloc (.cells #[.int .i64 0, .int .i64 0, .int .i64 0, .int .i64 0, .slice none 0 0] 28)).alloc (.cells #[.int .i64 0, .int .i64 0, .int .i64 0, .int .i64 0, .slice none 0 0] 28)) w4.heap.size 0 [.int .i64 gf, .int .i64 gs, .int .i64 gl, .int .i64 gp, .slice ga gn gc]) (w4.heap.size + 1) 0 5) := (hy0.farN (G := w4.heap.size) (by omega) [.int .i64 gf, .int .i64 gs, .int .i64 gl, .int .i64 gp, .slice ga gn gc]).th 5 (Nat.le_refl 5)
        have HX : Hid (Blk (World.setCells (World.setCells ((w4.alloc (.cells #[.int .i64 0, .int .i64 0, .int .i64 0, .int .i64 0, .slice none 0 0] 28)).alloc (.cells #[.int .i64 0, .int .i64 0, .int .i64 0, .int .i64 0, .slice none 0 0] 28)) w4.heap.size 0 [.int .i64 gf, .int .i64 gs, .int .i64 gl, .int .i64 gp, .slice ga gn gc]) (w4.heap.size + 1) 0 [.int .i64 kf, .int .i64 ks, .int .i64 kl, .int .i64 kp, .slice ka kn kc]) w4.heap.size [.int .i64 gf, .int .i64 gs, .int .i64 gl, .int .i64 gp, .slice ga gn gc] 28) := (hx0.set5 (.int .i64 gf) (.int .i64 gs) (.int .i64 gl) (.int .i64 gp) (.slice ga gn gc)).farN (G := w4.heap.size + 1) (by omega) _
        have HY : Hid (Blk (World.setCells (World.setCells ((w4.alloc (.cells #[.int .i64 0, .int .i64 0, .int .i64 0, .int .i64 0, .slice none 0 0] 28)).alloc (.cells #[.int .i64 0, .int .i64 0, .int .i64 0, .int .i64 0, .slice none 0 0] 28)) w4.heap.size 0 [.int .i64 gf, .int .i64 gs, .int .i64 gl, .int .i64 gp, .slice ga gn gc]) (w4.heap.size + 1) 0 [.int .i64 kf, .int .i64 ks, .int .i64 kl, .int .i64 kp, .slice ka kn kc]) (w4.heap.size + 1) [.int .i64 kf, .int .i64 ks, .int .i64 kl, .int .i64 kp, .slice ka kn kc] 28) := (hy0.farN (G := w4.heap.size) (by omega) [.int .i64 gf, .int .i64 gs, .int .i64 gl, .int .i64 gp, .slice ga gn gc]).set5 (.int .i64 kf) (.int .i64 ks) (.int .i64 kl) (.int .i64 kp) (.slice ka kn kc)
        have HK5 : Hid (Keeps w.heap.size w4 (World.setCells (World.setCells ((w4.alloc (.cells #[.int .i64 0, .int .i64 0, .int .i64 0, .int .i64 0, .slice none 0 0] 28)).alloc (.cells #[.int .i64 0, .int .i64 0, .int .i64 0, .int .i64 0, .slice none 0 0] 28)) w4.heap.size 0 [.int .i64 gf, .int .i64 gs, .int .i64 gl, .int .i64 gp, .slice ga gn gc]) (w4.heap.size + 1) 0 [.int .i64 kf, .int .i64 ks, .int .i64 kl, .int .i64 kp, .slice ka kn kc])) := keeps_setCells (by omega) _ _ _ (keeps_setCells (Nat.le_refl _) _ _ _ (((Keeps.refl _ _).alloc _).alloc _))
        clear hx0 hy0
        as_aux_lemma =>
          go_wp2_with (refine wpList_store_mid rfl 28 (.tmp 4) (.tmp 24) rfl w4.heap.size 0 #[.int .i64 gf, .int .i64 gs, .int .i64 gl, .int .i64 gp, .slice ga gn gc] rfl rfl HTH1.out Tryz.deckSz (by simp [Value.oneCell']) ?_; generalize (World.setCells ((w4.alloc (.cells #[.int .i64 0, .int .i64 0, .int .i64 0, .int .i64 0, .slice none 0 0] 28)).alloc (.cells #[.int .i64 0, .int .i64 0, .int .i64 0, .int .i64 0, .slice none 0 0] 28)) w4.heap.size 0 [.int .i64 gf, .int .i64 gs, .int .i64 gl, .int .i64 gp, .slice ga gn gc]) = wv at HTH2 HX HY HK5 ⊢; clear HTH1; refine Hid.out ?_)
          refine Lib.hid ?_
          as_aux_lemma =>
            go_wp2_with (refine wpList_store_mid rfl 28 (.tmp 5) (.tmp 26) rfl (w4.heap.size + 1) 0 #[.int .i64 kf, .int .i64 ks, .int .i64 kl, .int .i64 kp, .slice ka kn kc] rfl rfl HTH2.out Tryz.deckSz (by simp [Value.oneCell']) ?_; generalize (World.setCells wv (w4.heap.size + 1) 0 [.int .i64 kf, .int .i64 ks, .int .i64 kl, .int .i64 kp, .slice ka kn kc]) = w5 at HX HY HK5 ⊢; clear HTH2; refine Hid.out ?_)
            refine Lib.hid ?_
            generalize w4.heap.size + 1 = Y at HY ⊢
            generalize w4.heap.size = X at HX ⊢
            have HFIN : Hid (∀ W, Below w5.heap.size w5 W → Below w.heap.size w W) := fun W hW => HEND.out W ((HK4.out.trans HK5.out).trans (Keeps.of_below hW))
            have HD : Hid (∀ W, Below w5.heap.size w5 W → DeckFine W (⟨gf, gs, gl, gp, ga, gn, gc, grs⟩ : Deck) ∧ DeckFine W (⟨kf, ks, kl, kp, ka, kn, kc, krs⟩ : Deck)) := fun W hW => HD4.out W (HK5.out.trans (Keeps.of_below hW))
            clear HD4 HK4 HK5 HEND
            have h100 : grs.length + krs.length ≤ 100 := by omega
            have HF1 : Hid (∀ W, Below w5.heap.size w5 W → Calls Tryz.prog 7 #[.agg #[.int .i64 gf, .int .i64 gs, .int .i64 gl, .int .i64 gp, .slice ga gn gc]] W (ErrPost (deckErr (⟨gf, gs, gl, gp, ga, gn, gc, grs⟩ : Deck)) W)) := fun W hW => deckFault_any W (⟨gf, gs, gl, gp, ga, gn, gc, grs⟩ : Deck) (HD.out W hW).1
            have HF2 : Hid (∀ W, Below w5.heap.size w5 W → Calls Tryz.prog 7 #[.agg #[.int .i64 kf, .int .i64 ks, .int .i64 kl, .int .i64 kp, .slice ka kn kc]] W (ErrPost (deckErr (⟨kf, ks, kl, kp, ka, kn, kc, krs⟩ : Deck)) W)) := fun W hW => deckFault_any W (⟨kf, ks, kl, kp, ka, kn, kc, krs⟩ : Deck) (HD.out W hW).2
            have hfine := HD.out w5 (Below.refl _ _)
            have HLE : Hid (∀ W, Below w5.heap.size w5 W → Calls Tryz.prog 9 #[.agg #[.int .i64 gf, .int .i64 gs, .int .i64 gl, .int .i64 gp, .slice ga gn gc]] W (DeckPostE (leastDv (⟨gf, gs, gl, gp, ga, gn, gc, grs⟩ : Deck) (deckErr (⟨gf, gs, gl, gp, ga, gn, gc, grs⟩ : Deck))).f (leastDv (⟨gf, gs, gl, gp, ga, gn, gc, grs⟩ : Deck) (deckErr (⟨gf, gs, gl, gp, ga, gn, gc, grs⟩ : Deck))).s (leastDv (⟨gf, gs, gl, gp, ga, gn, gc, grs⟩ : Deck) (deckErr (⟨gf, gs, gl, gp, ga, gn, gc, grs⟩ : Deck))).l (leastDv (⟨gf, gs, gl, gp, ga, gn, gc, grs⟩ : Deck) (deckErr (⟨gf, gs, gl, gp, ga, gn, gc, grs⟩ : Deck))).p (leastDv (⟨gf, gs, gl, gp, ga, gn, gc, grs⟩ : Deck) (deckErr (⟨gf, gs, gl, gp, ga, gn, gc, grs⟩ : Deck))).rs (deckErr (⟨gf, gs, gl, gp, ga, gn, gc, grs⟩ : Deck)) W)) := fun W hW => leastD_any W (⟨gf, gs, gl, gp, ga, gn, gc, grs⟩ : Deck) (HD.out W hW).1
            have HLK : Hid (DvOk (leastDv (⟨gf, gs, gl, gp, ga, gn, gc, grs⟩ : Deck) (deckErr (⟨gf, gs, gl, gp, ga, gn, gc, grs⟩ : Deck)))) := leastDv_ok hfine.1 _
            have HL0 : Hid (deckErr (⟨gf, gs, gl, gp, ga, gn, gc, grs⟩ : Deck) = 0 → leastDv (⟨gf, gs, gl, gp, ga, gn, gc, grs⟩ : Deck) (deckErr (⟨gf, gs, gl, gp, ga, gn, gc, grs⟩ : Deck)) = ⟨gf, gs, gl, gp, leastR grs⟩) := fun h => if_pos h
            have HL1 : Hid (deckErr (⟨gf, gs, gl, gp, ga, gn, gc, grs⟩ : Deck) ≠ 0 → leastDv (⟨gf, gs, gl, gp, ga, gn, gc, grs⟩ : Deck) (deckErr (⟨gf, gs, gl, gp, ga, gn, gc, grs⟩ : Deck)) = ⟨0, 0, 0, 0, []⟩) := fun h => if_neg h
            have HLD : Hid (∀ W, Below w5.heap.size w5 W → Calls Tryz.prog 11 #[.agg #[.int .i64 gf, .int .i64 gs, .int .i64 gl, .int .i64 gp, .slice ga gn gc]] W (DeckPostO gf gs gl gp (leastR grs) W)) := fun W hW => leastDeck_any W gf gs gl gp ga gn gc grs (HD.out W hW).1.row
            have HDI : Hid (∀ W, Below w5.heap.size w5 W → Calls Tryz.prog 12 #[.agg #[.int .i64 gf, .int .i64 gs, .int .i64 gl, .int .i64 gp, .slice ga gn gc], .agg #[.int .i64 kf, .int .i64 ks, .int .i64 kl, .int .i64 kp, .slice ka kn kc]] W (ListPostE (if firstE (deckErr (⟨gf, gs, gl, gp, ga, gn, gc, grs⟩ : Deck)) (deckErr (⟨kf, ks, kl, kp, ka, kn, kc, krs⟩ : Deck)) = 0 then diffV grs krs else []) (firstE (deckErr (⟨gf, gs, gl, gp, ga, gn, gc, grs⟩ : Deck)) (deckErr (⟨kf, ks, kl, kp, ka, kn, kc, krs⟩ : Deck))) W)) := fun W hW => differ_any W (⟨gf, gs, gl, gp, ga, gn, gc, grs⟩ : Deck) (⟨kf, ks, kl, kp, ka, kn, kc, krs⟩ : Deck) (HD.out W hW).1 (HD.out W hW).2 _ rfl
            have HDR : Hid (firstE (deckErr (⟨gf, gs, gl, gp, ga, gn, gc, grs⟩ : Deck)) (deckErr (⟨kf, ks, kl, kp, ka, kn, kc, krs⟩ : Deck)) = 0 → ∀ W, Below w5.heap.size w5 W → Calls Tryz.prog 14 #[.agg #[.int .i64 gf, .int .i64 gs, .int .i64 gl, .int .i64 gp, .slice ga gn gc], .agg #[.int .i64 kf, .int .i64 ks, .int .i64 kl, .int .i64 kp, .slice ka kn kc]] W (ListPost (diffV grs krs) W)) := fun h W hW => differDecks_any W (⟨gf, gs, gl, gp, ga, gn, gc, grs⟩ : Deck) (⟨kf, ks, kl, kp, ka, kn, kc, krs⟩ : Deck) (HD.out W hW).1 (HD.out W hW).2 (first_both h)
            have HDL : Hid ((diffV grs krs).length ≤ 100) := Nat.le_trans diff_few h100
            have HCH : Hid (∀ W, Below w5.heap.size w5 W → Calls Tryz.prog 15 #[.agg #[.int .i64 gf, .int .i64 gs, .int .i64 gl, .int .i64 gp, .slice ga gn gc], .agg #[.int .i64 kf, .int .i64 ks, .int .i64 kl, .int .i64 kp, .slice ka kn kc], .int .i64 talk] W (CheapPost (if firstE (firstE (deckErr (⟨gf, gs, gl, gp, ga, gn, gc, grs⟩ : Deck)) (deckErr (⟨kf, ks, kl, kp, ka, kn, kc, krs⟩ : Deck))) (if inB talk 0 86400000 = true then 0 else 1) = 0 then cheapV (⟨gf, gs, gl, gp, ga, gn, gc, grs⟩ : Deck) (⟨kf, ks, kl, kp, ka, kn, kc, krs⟩ : Deck) talk else none) (firstE (firstE (deckErr (⟨gf, gs, gl, gp, ga, gn, gc, grs⟩ : Deck)) (deckErr (⟨kf, ks, kl, kp, ka, kn, kc, krs⟩ : Deck))) (if inB talk 0 86400000 = true then 0 else 1)) W)) := fun W hW => cheaper_any W (⟨gf, gs, gl, gp, ga, gn, gc, grs⟩ : Deck) (⟨kf, ks, kl, kp, ka, kn, kc, krs⟩ : Deck) (HD.out W hW).1 (HD.out W hW).2 talk _ _ rfl rfl
            have HCN : Hid (firstE (firstE (deckErr (⟨gf, gs, gl, gp, ga, gn, gc, grs⟩ : Deck)) (deckErr (⟨kf, ks, kl, kp, ka, kn, kc, krs⟩ : Deck))) (if inB talk 0 86400000 = true then 0 else 1) = 0 → ∀ W, Below w5.heap.size w5 W → Calls Tryz.prog 17 #[.agg #[.int .i64 gf, .int .i64 gs, .int .i64 gl, .int .i64 gp, .slice ga gn gc], .agg #[.int .i64 kf, .int .i64 ks, .int .i64 kl, .int .i64 kp, .slice ka kn kc], .int .i64 talk] W (DecPost (cheapV (⟨gf, gs, gl, gp, ga, gn, gc, grs⟩ : Deck) (⟨kf, ks, kl, kp, ka, kn, kc, krs⟩ : Deck) talk) W)) := fun h W hW => by
              obtain ⟨h1, h2⟩ := first_both h
              have hI : inB talk 0 86400000 = true := by
                by_cases hI : inB talk 0 86400000 = true
                · exact hI
                · rw [if_neg hI] at h2; cases h2
              exact cheaperNumber_any W (⟨gf, gs, gl, gp, ga, gn, gc, grs⟩ : Deck) (⟨kf, ks, kl, kp, ka, kn, kc, krs⟩ : Deck) (HD.out W hW).1 (HD.out W hW).2 (first_both h1) talk (by unfold inB at hI; simpa using hI)
            have HBE : Hid (∀ W, Below w5.heap.size w5 W → Calls Tryz.prog 18 #[.agg #[.int .i64 gf, .int .i64 gs, .int .i64 gl, .int .i64 gp, .slice ga gn gc], .agg #[.int .i64 kf, .int .i64 ks, .int .i64 kl, .int .i64 kp, .slice ka kn kc]] W (RatesPostE (if firstE (deckErr (⟨gf, gs, gl, gp, ga, gn, gc, grs⟩ : Deck)) (deckErr (⟨kf, ks, kl, kp, ka, kn, kc, krs⟩ : Deck)) = 0 then leastR (bestV grs krs) else []) (firstE (deckErr (⟨gf, gs, gl, gp, ga, gn, gc, grs⟩ : Deck)) (deckErr (⟨kf, ks, kl, kp, ka, kn, kc, krs⟩ : Deck))) W)) := fun W hW => carBest_any W (⟨gf, gs, gl, gp, ga, gn, gc, grs⟩ : Deck) (⟨kf, ks, kl, kp, ka, kn, kc, krs⟩ : Deck) (HD.out W hW).1 (HD.out W hW).2 h100 _ rfl
            have HBR : Hid (firstE (deckErr (⟨gf, gs, gl, gp, ga, gn, gc, grs⟩ : Deck)) (deckErr (⟨kf, ks, kl, kp, ka, kn, kc, krs⟩ : Deck)) = 0 → ∀ W, Below w5.heap.size w5 W → Calls Tryz.prog 20 #[.agg #[.int .i64 gf, .int .i64 gs, .int .i64 gl, .int .i64 gp, .slice ga gn gc], .agg #[.int .i64 kf, .int .i64 ks, .int .i64 kl, .int .i64 kp, .slice ka kn kc]] W (RatesPost (leastR (bestV grs krs)) W)) := fun h W hW => bestRates_any W (⟨gf, gs, gl, gp, ga, gn, gc, grs⟩ : Deck) (⟨kf, ks, kl, kp, ka, kn, kc, krs⟩ : Deck) (HD.out W hW).1 (HD.out W hW).2 (first_both h) h100
            have HBK : Hid ((leastR (bestV grs krs)).length ≤ 100 ∧ EachR (leastR (bestV grs krs))) := best_ok hfine.1.row hfine.2.row h100
            have HRA : Hid (∀ W, Below w5.heap.size w5 W → Calls Tryz.prog 21 #[.agg #[.int .i64 gf, .int .i64 gs, .int .i64 gl, .int .i64 gp, .slice ga gn gc], .int .i64 part] W (DeckPostE (raiseDv (⟨gf, gs, gl, gp, ga, gn, gc, grs⟩ : Deck) part (raiseE (⟨gf, gs, gl, gp, ga, gn, gc, grs⟩ : Deck) part)).f (raiseDv (⟨gf, gs, gl, gp, ga, gn, gc, grs⟩ : Deck) part (raiseE (⟨gf, gs, gl, gp, ga, gn, gc, grs⟩ : Deck) part)).s (raiseDv (⟨gf, gs, gl, gp, ga, gn, gc, grs⟩ : Deck) part (raiseE (⟨gf, gs, gl, gp, ga, gn, gc, grs⟩ : Deck) part)).l (raiseDv (⟨gf, gs, gl, gp, ga, gn, gc, grs⟩ : Deck) part (raiseE (⟨gf, gs, gl, gp, ga, gn, gc, grs⟩ : Deck) part)).p (raiseDv (⟨gf, gs, gl, gp, ga, gn, gc, grs⟩ : Deck) part (raiseE (⟨gf, gs, gl, gp, ga, gn, gc, grs⟩ : Deck) part)).rs (raiseE (⟨gf, gs, gl, gp, ga, gn, gc, grs⟩ : Deck) part) W)) := fun W hW => raiseD_any W (⟨gf, gs, gl, gp, ga, gn, gc, grs⟩ : Deck) (HD.out W hW).1 part
            have HRK : Hid (DvOk (raiseDv (⟨gf, gs, gl, gp, ga, gn, gc, grs⟩ : Deck) part (raiseE (⟨gf, gs, gl, gp, ga, gn, gc, grs⟩ : Deck) part))) := raiseDv_ok hfine.1 part
            have HR0 : Hid (raiseE (⟨gf, gs, gl, gp, ga, gn, gc, grs⟩ : Deck) part = 0 → raiseDv (⟨gf, gs, gl, gp, ga, gn, gc, grs⟩ : Deck) part (raiseE (⟨gf, gs, gl, gp, ga, gn, gc, grs⟩ : Deck) part) = ⟨gf, upD (gs * (1000 + part)) 1000, gl, gp, grs.map (raz part)⟩) := fun h => if_pos h
            have HR1 : Hid (raiseE (⟨gf, gs, gl, gp, ga, gn, gc, grs⟩ : Deck) part ≠ 0 → raiseDv (⟨gf, gs, gl, gp, ga, gn, gc, grs⟩ : Deck) part (raiseE (⟨gf, gs, gl, gp, ga, gn, gc, grs⟩ : Deck) part) = ⟨0, 0, 0, 0, []⟩) := fun h => if_neg h
            have HRD : Hid (partE (⟨gf, gs, gl, gp, ga, gn, gc, grs⟩ : Deck) part = 0 → ∀ W, Below w5.heap.size w5 W → Calls Tryz.prog 22 #[.agg #[.int .i64 gf, .int .i64 gs, .int .i64 gl, .int .i64 gp, .slice ga gn gc], .int .i64 part] W (DeckPostO gf (upD (gs * (1000 + part)) 1000) gl gp (grs.map (raz part)) W)) := fun h W hW => raisedDeck_any W (⟨gf, gs, gl, gp, ga, gn, gc, grs⟩ : Deck) (HD.out W hW).1 (partE_zero h).1 part (partE_zero h).2.1
            have HRF : Hid (partE (⟨gf, gs, gl, gp, ga, gn, gc, grs⟩ : Deck) part = 0 → ∀ (W : World) (base : Nat) (a : Option Addr) (n c : Nat), W.ownsRow base 51 3 (.slice a n c) (grs.map (raz part)).length (((grs.map (raz part)).map Rate.cells).flatten) → Calls Tryz.prog 7 #[.agg #[.int .i64 gf, .int .i64 (upD (gs * (1000 + part)) 1000), .int .i64 gl, .int .i64 gp, .slice a n c]] W (ErrPost (raiseE (⟨gf, gs, gl, gp, ga, gn, gc, grs⟩ : Deck) part) W)) := fun h W base a n c ho => by
              rw [(partE_zero h).2.2]
              exact raisedFault hfine.1 (partE_zero h).1 (partE_zero h).2.1 ho
            have HPE : Hid (partE (⟨gf, gs, gl, gp, ga, gn, gc, grs⟩ : Deck) part ≠ 0 → raiseE (⟨gf, gs, gl, gp, ga, gn, gc, grs⟩ : Deck) part = partE (⟨gf, gs, gl, gp, ga, gn, gc, grs⟩ : Deck) part) := partE_bad
            have HPQ : Hid (firstE (deckErr (⟨gf, gs, gl, gp, ga, gn, gc, grs⟩ : Deck)) (if inB part (-1000) 10000 = true then 0 else 1) = partE (⟨gf, gs, gl, gp, ga, gn, gc, grs⟩ : Deck) part) := rfl
            clear hfine HD h100 hgl hkl
            generalize partE (⟨gf, gs, gl, gp, ga, gn, gc, grs⟩ : Deck) part = G1 at HRD HRF HPE HPQ
            generalize raiseDv (⟨gf, gs, gl, gp, ga, gn, gc, grs⟩ : Deck) part (raiseE (⟨gf, gs, gl, gp, ga, gn, gc, grs⟩ : Deck) part) = D2 at HRA HRK HR0 HR1
            generalize raiseE (⟨gf, gs, gl, gp, ga, gn, gc, grs⟩ : Deck) part = RE at HRA HR0 HR1 HRF HPE
            generalize leastDv (⟨gf, gs, gl, gp, ga, gn, gc, grs⟩ : Deck) (deckErr (⟨gf, gs, gl, gp, ga, gn, gc, grs⟩ : Deck)) = D1 at HLE HLK HL0 HL1
            generalize upD (gs * (1000 + part)) 1000 = U at HR0 HRD HRF
            generalize grs.map (raz part) = RR at HR0 HRD HRF
            generalize leastR (bestV grs krs) = BV at HBE HBR HBK
            generalize leastR grs = RL at HL0 HLD
            generalize diffV grs krs = DV at HDI HDR HDL
            generalize cheapV (⟨gf, gs, gl, gp, ga, gn, gc, grs⟩ : Deck) (⟨kf, ks, kl, kp, ka, kn, kc, krs⟩ : Deck) talk = CV at HCH HCN
            generalize deckErr (⟨gf, gs, gl, gp, ga, gn, gc, grs⟩ : Deck) = E1 at HF1 HLE HL0 HL1 HDI HDR HCH HCN HBE HBR HPQ
            generalize deckErr (⟨kf, ks, kl, kp, ka, kn, kc, krs⟩ : Deck) = E2 at HF2 HDI HDR HCH HCN HBE HBR
            generalize hE : firstE E1 E2 = E at HDI HDR HCH HCN HBE HBR
            generalize hF : firstE E (if inB talk 0 86400000 = true then 0 else 1) = F at HCH HCN
            have HEQ := Lib.hid hE
            have HFQ := Lib.hid hF
            have HDX : Hid (∀ xs : List (List UInt8), xs = (if E = 0 then DV else []) → xs.length ≤ 100 ∧ (E = 0 → xs = DV)) := fun xs h => by
              by_cases h9 : E = 0
              · rw [if_pos h9] at h; subst h; exact ⟨HDL.out, fun _ => rfl⟩
              · rw [if_neg h9] at h; subst h; exact ⟨Nat.zero_le _, fun h => absurd h h9⟩
            obtain ⟨XS, hXS⟩ : ∃ xs : List (List UInt8), xs = (if E = 0 then DV else []) := ⟨_, rfl⟩
            have HXS := Lib.hid (HDX.out XS hXS)
            rw [← hXS] at HDI
            have HOX : Hid (F = 0 → (if F = 0 then CV else none) = CV) := fun h => if_pos h
            have HON : Hid (F ≠ 0 → (if F = 0 then CV else none) = none) := fun h => if_neg h
            generalize (if F = 0 then CV else none) = oc at HCH HOX HON
            have HBX : Hid (E = 0 → (if E = 0 then BV else []) = BV) := fun h => if_pos h
            generalize (if E = 0 then BV else []) = BX at HBE HBX
            obtain ⟨df, ds, dl, dp, drs⟩ := D1
            obtain ⟨ef, es, el, ep, ers⟩ := D2
            simp only at HLE HRA
            have HL02 : Hid (E1 = 0 → df = gf ∧ ds = gs ∧ dl = gl ∧ dp = gp ∧ drs = RL) := fun h => by
              have := HL0.out h
              injection this with q1 q2 q3 q4 q5
              exact ⟨q1, q2, q3, q4, q5⟩
            have HL12 : Hid (E1 ≠ 0 → df = 0 ∧ ds = 0 ∧ dl = 0 ∧ dp = 0 ∧ drs = []) := fun h => by
              have := HL1.out h
              injection this with q1 q2 q3 q4 q5
              exact ⟨q1, q2, q3, q4, q5⟩
            have HR02 : Hid (RE = 0 → ef = gf ∧ es = U ∧ el = gl ∧ ep = gp ∧ ers = RR) := fun h => by
              have := HR0.out h
              injection this with q1 q2 q3 q4 q5
              exact ⟨q1, q2, q3, q4, q5⟩
            have HR12 : Hid (RE ≠ 0 → ef = 0 ∧ es = 0 ∧ el = 0 ∧ ep = 0 ∧ ers = []) := fun h => by
              have := HR1.out h
              injection this with q1 q2 q3 q4 q5
              exact ⟨q1, q2, q3, q4, q5⟩
            have HB5 : Hid (Below w5.heap.size w5 w5) := Below.refl _ _
            clear hE hF hXS HDX HL0 HL1 HR0 HR1 HDL HTB HPB
            as_aux_lemma =>
              go_upto_region 3 with (fail)
              have HBq : Hid (Below w5.heap.size w5 w5.drew) := ext_drew (Below.refl _ _)
              refine region_seqI (S := fun W => Below w5.heap.size w5 W) [(true, 0), (true, 2), (true, 4), (false, 1), (false, 3), (false, 5), (false, 6), (false, 7), (true, 8), (true, 9)] (by kernel_rfl) (by kernel_rfl) rfl (by kernel_rfl) HBq.out ?_
              generalize w5.drew = wd at HBq ⊢
              simp only [seqOps, List.getD_cons_zero, List.getD_cons_succ]
              refine seqI_take (v := .agg #[.int .i64 gf, .int .i64 gs, .int .i64 gl, .int .i64 gp, .slice ga gn gc]) rfl (fun W hW => by have m0 := (HX.out.below hW).cell 0 rfl; have m1 := (HX.out.below hW).cell 1 rfl; have m2 := (HX.out.below hW).cell 2 rfl; have m3 := (HX.out.below hW).cell 3 rfl; have m4 := (HX.out.below hW).cell 4 rfl; go_simp) (fun _ _ _ h => h) ?_
              simp only [Act.put, List.setIfInBounds_toArray, List.set_cons_zero, List.set_cons_succ]
              refine seqI_take (v := .agg #[.int .i64 gf, .int .i64 gs, .int .i64 gl, .int .i64 gp, .slice ga gn gc]) rfl (fun W hW => by have m0 := (HX.out.below hW).cell 0 rfl; have m1 := (HX.out.below hW).cell 1 rfl; have m2 := (HX.out.below hW).cell 2 rfl; have m3 := (HX.out.below hW).cell 3 rfl; have m4 := (HX.out.below hW).cell 4 rfl; go_simp) (fun _ _ _ h => h) ?_
              simp only [Act.put, List.setIfInBounds_toArray, List.set_cons_zero, List.set_cons_succ]
              refine seqI_take (v := .agg #[.int .i64 kf, .int .i64 ks, .int .i64 kl, .int .i64 kp, .slice ka kn kc]) rfl (fun W hW => by have m0 := (HY.out.below hW).cell 0 rfl; have m1 := (HY.out.below hW).cell 1 rfl; have m2 := (HY.out.below hW).cell 2 rfl; have m3 := (HY.out.below hW).cell 3 rfl; have m4 := (HY.out.below hW).cell 4 rfl; go_simp) (fun _ _ _ h => h) ?_
              simp only [Act.put, List.setIfInBounds_toArray, List.set_cons_zero, List.set_cons_succ]
              refine seqI_call 7 #[.agg #[.int .i64 gf, .int .i64 gs, .int .i64 gl, .int .i64 gp, .slice ga gn gc]] rfl (by go_simp) (HF1.out _ HBq.out) ?_
              rintro e w6 ⟨rfl, hb⟩
              have HBp := Lib.hid (ext_trans HBq.out hb)
              clear HBq
              have HBq := HBp
              clear HBp hb
              refine ⟨_, rfl, HBq.out, ?_⟩
              simp only [Act.put, List.setIfInBounds_toArray, List.set_cons_zero, List.set_cons_succ]
              refine seqI_call 7 #[.agg #[.int .i64 gf, .int .i64 gs, .int .i64 gl, .int .i64 gp, .slice ga gn gc]] rfl (by go_simp) (HF1.out _ HBq.out) ?_
              rintro e w7 ⟨rfl, hb⟩
              have HBp := Lib.hid (ext_trans HBq.out hb)
              clear HBq
              have HBq := HBp
              clear HBp hb
              refine ⟨_, rfl, HBq.out, ?_⟩
              simp only [Act.put, List.setIfInBounds_toArray, List.set_cons_zero, List.set_cons_succ]
              refine seqI_call 7 #[.agg #[.int .i64 kf, .int .i64 ks, .int .i64 kl, .int .i64 kp, .slice ka kn kc]] rfl (by go_simp) (HF2.out _ HBq.out) ?_
              rintro e w8 ⟨rfl, hb⟩
              have HBp := Lib.hid (ext_trans HBq.out hb)
              clear HBq
              have HBq := HBp
              clear HBp hb
              refine ⟨_, rfl, HBq.out, ?_⟩
              simp only [Act.put, List.setIfInBounds_toArray, List.set_cons_zero, List.set_cons_succ]
              refine seqI_do rfl ?_
              unfold Oper.wp
              rw [(bl_ldk2 _ (fun _ => rfl) _ _ 36 38 E1 E2 rfl rfl rfl)]
              have hA : Below w8.heap.size w8 (w8.alloc (.cells #[.int .i64 E1, .int .i64 E2] 31)) := ext_alloc (Below.refl _ _)
              have HB9 := Lib.hid (ext_trans HBq.out hA)
              refine ⟨HB9.out, ?_⟩
              simp only [Act.put, List.setIfInBounds_toArray, List.set_cons_zero, List.set_cons_succ]
              have HOR := Lib.hid (or_any E1 E2 w8.heap.size (w8.alloc (.cells #[.int .i64 E1, .int .i64 E2] 31)) (by simp) (by go_simp) (by go_simp))
              rw [HEQ.out] at HOR
              generalize w8.alloc (.cells #[.int .i64 E1, .int .i64 E2] 31) = w9 at HB9 HOR ⊢
              clear hA HBq
              refine seqI_call 8 #[.slice (some ⟨w8.heap.size, 0, none⟩) 2 2] rfl (by go_simp) HOR.out ?_
              rintro e w' ⟨rfl, hw9⟩
              subst hw9
              refine ⟨_, rfl, HB9.out, ?_⟩
              simp only [Act.put, List.setIfInBounds_toArray, List.set_cons_zero, List.set_cons_succ]
              refine seqI_take (v := .int .i64 E1) rfl (fun W hW => by go_simp) (fun _ _ _ h => h) ?_
              simp only [Act.put, List.setIfInBounds_toArray, List.set_cons_zero, List.set_cons_succ]
              refine seqI_take (v := .int .i64 E) rfl (fun W hW => by go_simp) (fun _ _ _ h => h) ?_
              simp only [Act.put, List.setIfInBounds_toArray, List.set_cons_zero, List.set_cons_succ]
              refine seqI_nil ?_
              clear HOR
              have HRX : Hid (w9.rangeAt X 0 [.int .i64 gf, .int .i64 gs, .int .i64 gl, .int .i64 gp, .slice ga gn gc]) := (HX.out.below HB9.out).range
              have HRY : Hid (w9.rangeAt Y 0 [.int .i64 kf, .int .i64 ks, .int .i64 kl, .int .i64 kp, .slice ka kn kc]) := (HY.out.below HB9.out).range
              as_aux_lemma =>
                go_wp2_with (first | (refine wpList_load_mid rfl 28 (.tmp 4) rfl X 0 rfl [.int .i64 gf, .int .i64 gs, .int .i64 gl, .int .i64 gp, .slice ga gn gc] _ HRX.out Tryz.underlying28 rfl Tryz.deckSz ?_) | (refine wpList_load_mid rfl 28 (.tmp 5) rfl Y 0 rfl [.int .i64 kf, .int .i64 ks, .int .i64 kl, .int .i64 kp, .slice ka kn kc] _ HRY.out Tryz.underlying28 rfl Tryz.deckSz ?_))
                refine (HLE.out _ HB9.out).mono ?_
                rintro e w10 ⟨na, nn, nc, rfl, ho, hb⟩
                have HB10 := Lib.hid (ext_trans HB9.out hb)
                have HO10 := Lib.hid ho
                clear ho
                clear hb HRX HRY
                have hz0 := Blk.new w10 [.int .i64 0, .int .i64 0, .int .i64 0, .int .i64 0, .slice none 0 0] 28
                have HTH : Hid (World.there (w10.alloc (.cells #[.int .i64 0, .int .i64 0, .int .i64 0, .int .i64 0, .slice none 0 0] 28)) w10.heap.size 0 5) := hz0.th 5 (Nat.le_refl 5)
                have HZ : Hid (Blk (World.setCells (w10.alloc (.cells #[.int .i64 0, .int .i64 0, .int .i64 0, .int .i64 0, .slice none 0 0] 28)) w10.heap.size 0 [.int .i64 df, .int .i64 ds, .int .i64 dl, .int .i64 dp, .slice na nn nc]) w10.heap.size [.int .i64 df, .int .i64 ds, .int .i64 dl, .int .i64 dp, .slice na nn nc] 28) := hz0.set5 (.int .i64 df) (.int .i64 ds) (.int .i64 dl) (.int .i64 dp) (.slice na nn nc)
                have hA : Below w10.heap.size w10 (w10.alloc (.cells #[.int .i64 0, .int .i64 0, .int .i64 0, .int .i64 0, .slice none 0 0] 28)) := ext_alloc (Below.refl _ _)
                have HB11 : Hid (Below w5.heap.size w5 (World.setCells (w10.alloc (.cells #[.int .i64 0, .int .i64 0, .int .i64 0, .int .i64 0, .slice none 0 0] 28)) w10.heap.size 0 [.int .i64 df, .int .i64 ds, .int .i64 dl, .int .i64 dp, .slice na nn nc])) := below_put HB10.out.size (ext_trans HB10.out hA) _
                have HO11 : Hid (World.ownsRow (World.setCells (w10.alloc (.cells #[.int .i64 0, .int .i64 0, .int .i64 0, .int .i64 0, .slice none 0 0] 28)) w10.heap.size 0 [.int .i64 df, .int .i64 ds, .int .i64 dl, .int .i64 dp, .slice na nn nc]) w9.heap.size 51 3 (.slice na nn nc) drs.length ((drs.map Rate.cells).flatten)) := own_gb (own_keep HO10.out hA) (setCells_gb w10.heap.size [.int .i64 df, .int .i64 ds, .int .i64 dl, .int .i64 dp, .slice na nn nc] 0) (fun b h1 h2 => by injection h2 with h2; have := (HO10.out.lt b h1).2; omega)
                clear hz0 hA HO10
                as_aux_lemma =>
                  go_wp2_with (refine wpList_store_mid rfl 28 (.tmp 10) (.tmp 44) rfl w10.heap.size 0 #[.int .i64 df, .int .i64 ds, .int .i64 dl, .int .i64 dp, .slice na nn nc] rfl rfl HTH.out Tryz.deckSz (by simp [Value.oneCell']) ?_; generalize (World.setCells (w10.alloc (.cells #[.int .i64 0, .int .i64 0, .int .i64 0, .int .i64 0, .slice none 0 0] 28)) w10.heap.size 0 [.int .i64 df, .int .i64 ds, .int .i64 dl, .int .i64 dp, .slice na nn nc]) = w11 at HZ HB11 HO11 ⊢; clear HTH; refine Hid.out ?_)
                  refine Lib.hid ?_
                  generalize w10.heap.size = Z at HZ ⊢
                  as_aux_lemma =>
                    go_upto_region 5 with (fail)
                    go_cut [69] (fun v wx => v = .bool false ∧ Hid (Below w11.heap.size w11 wx))
                    case first =>
                      by_cases hE : E1 = 0
                      case pos =>
                        obtain ⟨rfl, rfl, rfl, rfl, rfl⟩ := HL02.out hE
                        subst hE
                        have HBq : Hid (Below w11.heap.size w11 w11.drew) := ext_drew (Below.refl _ _)
                        refine region_seqI (S := fun W => Below w11.heap.size w11 W) [(true, 0), (true, 1), (true, 2), (true, 3), (true, 4), (true, 5), (true, 6), (true, 7), (true, 8), (false, 9), (false, 10), (true, 11), (true, 12), (true, 13), (true, 14), (true, 15), (true, 16), (true, 17), (true, 18), (true, 19), (true, 20), (true, 21), (true, 22), (true, 23)] (by kernel_rfl) (by kernel_rfl) rfl (by kernel_rfl) HBq.out ?_
                        generalize w11.drew = wd at HBq ⊢
                        simp only [seqOps, List.getD_cons_zero, List.getD_cons_succ]
                        refine seqI_take (v := .int .i64 0) rfl (fun W hW => by go_simp) (fun _ _ _ h => h) ?_
                        simp only [Act.put, List.setIfInBounds_toArray, List.set_cons_zero, List.set_cons_succ]
                        refine seqI_take (v := .int .i64 0) rfl (fun W hW => by go_simp) (fun _ _ _ h => h) ?_
                        simp only [Act.put, List.setIfInBounds_toArray, List.set_cons_zero, List.set_cons_succ]
                        refine seqI_take (v := .bool false) rfl (fun W hW => by go_simp) (fun _ _ _ h => h) ?_
                        simp only [Act.put, List.setIfInBounds_toArray, List.set_cons_zero, List.set_cons_succ]
                        refine seqI_take (v := .bool false) rfl (fun W hW => by go_simp) (fun _ _ _ h => h) ?_
                        simp only [Act.put, List.setIfInBounds_toArray, List.set_cons_zero, List.set_cons_succ]
                        refine seqI_take (v := .int .i64 0) rfl (fun W hW => by go_simp) (fun _ _ _ h => h) ?_
                        simp only [Act.put, List.setIfInBounds_toArray, List.set_cons_zero, List.set_cons_succ]
                        refine seqI_take (v := .bool true) rfl (fun W hW => by go_simp) (fun _ _ _ h => h) ?_
                        simp only [Act.put, List.setIfInBounds_toArray, List.set_cons_zero, List.set_cons_succ]
                        refine seqI_take (v := .bool true) rfl (fun W hW => by go_simp) (fun _ _ _ h => h) ?_
                        simp only [Act.put, List.setIfInBounds_toArray, List.set_cons_zero, List.set_cons_succ]
                        refine seqI_take (v := .agg #[.int .i64 df, .int .i64 ds, .int .i64 dl, .int .i64 dp, .slice na nn nc]) rfl (fun W hW => by have m0 := (HZ.out.below hW).cell 0 rfl; have m1 := (HZ.out.below hW).cell 1 rfl; have m2 := (HZ.out.below hW).cell 2 rfl; have m3 := (HZ.out.below hW).cell 3 rfl; have m4 := (HZ.out.below hW).cell 4 rfl; go_simp) (fun _ _ _ h => h) ?_
                        simp only [Act.put, List.setIfInBounds_toArray, List.set_cons_zero, List.set_cons_succ]
                        refine seqI_take (v := .agg #[.int .i64 df, .int .i64 ds, .int .i64 dl, .int .i64 dp, .slice ga gn gc]) rfl (fun W hW => by have m0 := (HX.out.below (ext_trans HB11.out hW)).cell 0 rfl; have m1 := (HX.out.below (ext_trans HB11.out hW)).cell 1 rfl; have m2 := (HX.out.below (ext_trans HB11.out hW)).cell 2 rfl; have m3 := (HX.out.below (ext_trans HB11.out hW)).cell 3 rfl; have m4 := (HX.out.below (ext_trans HB11.out hW)).cell 4 rfl; go_simp) (fun _ _ _ h => h) ?_
                        simp only [Act.put, List.setIfInBounds_toArray, List.set_cons_zero, List.set_cons_succ]
                        refine seqI_call 11 #[.agg #[.int .i64 df, .int .i64 ds, .int .i64 dl, .int .i64 dp, .slice ga gn gc]] rfl (by go_simp) (HLD.out _ (ext_trans HB11.out HBq.out)) ?_
                        rintro e wa ⟨a9, n9, c9, rfl, ho9, hba⟩
                        have HBp := Lib.hid (ext_trans HBq.out hba)
                        clear HBq
                        have HBq := HBp
                        clear HBp
                        refine ⟨_, rfl, HBq.out, ?_⟩
                        simp only [Act.put, List.setIfInBounds_toArray, List.set_cons_zero, List.set_cons_succ]
                        refine seqI_call 10 #[.agg #[.int .i64 df, .int .i64 ds, .int .i64 dl, .int .i64 dp, .slice na nn nc], .agg #[.int .i64 df, .int .i64 ds, .int .i64 dl, .int .i64 dp, .slice a9 n9 c9]] rfl (by go_simp) (same_own df ds dl dp (own_keep HO11.out HBq.out) ho9 HLK.out.1 HLK.out.2) ?_
                        rintro e wb ⟨rfl, hbb⟩
                        have HBp := Lib.hid (ext_trans HBq.out hbb)
                        clear HBq
                        have HBq := HBp
                        clear HBp
                        refine ⟨_, rfl, HBq.out, ?_⟩
                        simp only [Act.put, List.setIfInBounds_toArray, List.set_cons_zero, List.set_cons_succ]
                        clear hba hbb ho9
                        refine seqI_take (v := .bool false) rfl (fun W hW => by go_simp) (fun _ _ _ h => h) ?_
                        simp only [Act.put, List.setIfInBounds_toArray, List.set_cons_zero, List.set_cons_succ]
                        refine seqI_take (v := .bool false) rfl (fun W hW => by go_simp) (fun _ _ _ h => h) ?_
                        simp only [Act.put, List.setIfInBounds_toArray, List.set_cons_zero, List.set_cons_succ]
                        refine seqI_take (v := .bool false) rfl (fun W hW => by go_simp) (fun _ _ _ h => h) ?_
                        simp only [Act.put, List.setIfInBounds_toArray, List.set_cons_zero, List.set_cons_succ]
                        refine seqI_take (v := .bool false) rfl (fun W hW => by go_simp) (fun _ _ _ h => h) ?_
                        simp only [Act.put, List.setIfInBounds_toArray, List.set_cons_zero, List.set_cons_succ]
                        refine seqI_take (v := .int .i64 0) rfl (fun W hW => by go_simp) (fun _ _ _ h => h) ?_
                        simp only [Act.put, List.setIfInBounds_toArray, List.set_cons_zero, List.set_cons_succ]
                        refine seqI_take (v := .bool false) rfl (fun W hW => by go_simp) (fun _ _ _ h => h) ?_
                        simp only [Act.put, List.setIfInBounds_toArray, List.set_cons_zero, List.set_cons_succ]
                        refine seqI_take (v := .bool false) rfl (fun W hW => by go_simp) (fun _ _ _ h => h) ?_
                        simp only [Act.put, List.setIfInBounds_toArray, List.set_cons_zero, List.set_cons_succ]
                        refine seqI_skip rfl (fun _ _ _ h => h) ?_
                        simp only [Act.put, List.setIfInBounds_toArray, List.set_cons_zero, List.set_cons_succ]
                        refine seqI_skip rfl (fun _ _ _ h => h) ?_
                        simp only [Act.put, List.setIfInBounds_toArray, List.set_cons_zero, List.set_cons_succ]
                        refine seqI_skip rfl (fun _ _ _ h => h) ?_
                        simp only [Act.put, List.setIfInBounds_toArray, List.set_cons_zero, List.set_cons_succ]
                        refine seqI_skip rfl (fun _ _ _ h => h) ?_
                        simp only [Act.put, List.setIfInBounds_toArray, List.set_cons_zero, List.set_cons_succ]
                        refine seqI_take (v := .bool false) rfl (fun W hW => by go_simp) (fun _ _ _ h => h) ?_
                        simp only [Act.put, List.setIfInBounds_toArray, List.set_cons_zero, List.set_cons_succ]
                        refine seqI_take (v := .bool false) rfl (fun W hW => by go_simp) (fun _ _ _ h => h) ?_
                        simp only [Act.put, List.setIfInBounds_toArray, List.set_cons_zero, List.set_cons_succ]
                        refine seqI_nil ?_
                        as_aux_lemma =>
                          go_wp2_with fail
                          go_meet
                          exact ⟨rfl, HBq.out⟩
                      case neg =>
                        obtain ⟨rfl, rfl, rfl, rfl, rfl⟩ := HL12.out hE
                        have hb1 : (E1 == 0) = false := beq_eq_false_iff_ne.2 hE
                        have hb2 : (E1 != 0) = true := by simp [hE]
                        have hb3 : (E1 != E1) = false := by simp
                        have HBq : Hid (Below w11.heap.size w11 w11.drew) := ext_drew (Below.refl _ _)
                        refine region_seqI (S := fun W => Below w11.heap.size w11 W) [(true, 0), (true, 1), (true, 2), (true, 3), (true, 4), (true, 5), (true, 6), (true, 7), (true, 8), (true, 9), (true, 10), (true, 11), (true, 12), (true, 13), (true, 14), (true, 15), (true, 16), (true, 17), (true, 18), (true, 19), (false, 20), (true, 21), (true, 22), (true, 23)] (by kernel_rfl) (by kernel_rfl) rfl (by kernel_rfl) HBq.out ?_
                        generalize w11.drew = wd at HBq ⊢
                        simp only [seqOps, List.getD_cons_zero, List.getD_cons_succ]
                        refine seqI_take (v := .int .i64 E1) rfl (fun W hW => by go_simp) (fun _ _ _ h => h) ?_
                        simp only [Act.put, List.setIfInBounds_toArray, List.set_cons_zero, List.set_cons_succ]
                        refine seqI_take (v := .int .i64 E1) rfl (fun W hW => by go_simp) (fun _ _ _ h => h) ?_
                        simp only [Act.put, List.setIfInBounds_toArray, List.set_cons_zero, List.set_cons_succ]
                        refine seqI_take (v := .bool false) rfl (fun W hW => by go_simp) (fun _ _ _ h => h) ?_
                        simp only [Act.put, List.setIfInBounds_toArray, List.set_cons_zero, List.set_cons_succ]
                        refine seqI_take (v := .bool false) rfl (fun W hW => by go_simp) (fun _ _ _ h => h) ?_
                        simp only [Act.put, List.setIfInBounds_toArray, List.set_cons_zero, List.set_cons_succ]
                        refine seqI_take (v := .int .i64 E1) rfl (fun W hW => by go_simp) (fun _ _ _ h => h) ?_
                        simp only [Act.put, List.setIfInBounds_toArray, List.set_cons_zero, List.set_cons_succ]
                        refine seqI_take (v := .bool false) rfl (fun W hW => by go_simp) (fun _ _ _ h => h) ?_
                        simp only [Act.put, List.setIfInBounds_toArray, List.set_cons_zero, List.set_cons_succ]
                        refine seqI_take (v := .bool false) rfl (fun W hW => by go_simp) (fun _ _ _ h => h) ?_
                        simp only [Act.put, List.setIfInBounds_toArray, List.set_cons_zero, List.set_cons_succ]
                        refine seqI_skip rfl (fun _ _ _ h => h) ?_
                        simp only [Act.put, List.setIfInBounds_toArray, List.set_cons_zero, List.set_cons_succ]
                        refine seqI_skip rfl (fun _ _ _ h => h) ?_
                        simp only [Act.put, List.setIfInBounds_toArray, List.set_cons_zero, List.set_cons_succ]
                        refine seqI_skip rfl (fun _ _ _ h => h) ?_
                        simp only [Act.put, List.setIfInBounds_toArray, List.set_cons_zero, List.set_cons_succ]
                        refine seqI_skip rfl (fun _ _ _ h => h) ?_
                        simp only [Act.put, List.setIfInBounds_toArray, List.set_cons_zero, List.set_cons_succ]
                        refine seqI_skip rfl (fun _ _ _ h => h) ?_
                        simp only [Act.put, List.setIfInBounds_toArray, List.set_cons_zero, List.set_cons_succ]
                        refine seqI_take (v := .bool false) rfl (fun W hW => by go_simp) (fun _ _ _ h => h) ?_
                        simp only [Act.put, List.setIfInBounds_toArray, List.set_cons_zero, List.set_cons_succ]
                        refine seqI_take (v := .bool false) rfl (fun W hW => by go_simp) (fun _ _ _ h => h) ?_
                        simp only [Act.put, List.setIfInBounds_toArray, List.set_cons_zero, List.set_cons_succ]
                        refine seqI_take (v := .bool false) rfl (fun W hW => by go_simp) (fun _ _ _ h => h) ?_
                        simp only [Act.put, List.setIfInBounds_toArray, List.set_cons_zero, List.set_cons_succ]
                        refine seqI_take (v := .int .i64 E1) rfl (fun W hW => by go_simp) (fun _ _ _ h => h) ?_
                        simp only [Act.put, List.setIfInBounds_toArray, List.set_cons_zero, List.set_cons_succ]
                        refine seqI_take (v := .bool true) rfl (fun W hW => by go_simp) (fun _ _ _ h => h) ?_
                        simp only [Act.put, List.setIfInBounds_toArray, List.set_cons_zero, List.set_cons_succ]
                        refine seqI_take (v := .bool true) rfl (fun W hW => by go_simp) (fun _ _ _ h => h) ?_
                        simp only [Act.put, List.setIfInBounds_toArray, List.set_cons_zero, List.set_cons_succ]
                        refine seqI_take (v := .agg #[.int .i64 0, .int .i64 0, .int .i64 0, .int .i64 0, .slice na nn nc]) rfl (fun W hW => by have m0 := (HZ.out.below hW).cell 0 rfl; have m1 := (HZ.out.below hW).cell 1 rfl; have m2 := (HZ.out.below hW).cell 2 rfl; have m3 := (HZ.out.below hW).cell 3 rfl; have m4 := (HZ.out.below hW).cell 4 rfl; go_simp) (fun _ _ _ h => h) ?_
                        simp only [Act.put, List.setIfInBounds_toArray, List.set_cons_zero, List.set_cons_succ]
                        refine seqI_take (v := .agg #[.int .i64 0, .int .i64 0, .int .i64 0, .int .i64 0, .slice none 0 0]) rfl (fun W hW => by go_simp) (fun _ _ _ h => h) ?_
                        simp only [Act.put, List.setIfInBounds_toArray, List.set_cons_zero, List.set_cons_succ]
                        refine seqI_call 10 #[.agg #[.int .i64 0, .int .i64 0, .int .i64 0, .int .i64 0, .slice na nn nc], .agg #[.int .i64 0, .int .i64 0, .int .i64 0, .int .i64 0, .slice none 0 0]] rfl (by go_simp) (same_own 0 0 0 0 (own_keep HO11.out HBq.out) (World.ownsRow_nil _ 0 _ _) HLK.out.1 HLK.out.2) ?_
                        rintro e wb ⟨rfl, hbb⟩
                        have HBp := Lib.hid (ext_trans HBq.out hbb)
                        clear HBq
                        have HBq := HBp
                        clear HBp
                        refine ⟨_, rfl, HBq.out, ?_⟩
                        simp only [Act.put, List.setIfInBounds_toArray, List.set_cons_zero, List.set_cons_succ]
                        clear hbb
                        refine seqI_take (v := .bool false) rfl (fun W hW => by go_simp) (fun _ _ _ h => h) ?_
                        simp only [Act.put, List.setIfInBounds_toArray, List.set_cons_zero, List.set_cons_succ]
                        refine seqI_take (v := .bool false) rfl (fun W hW => by go_simp) (fun _ _ _ h => h) ?_
                        simp only [Act.put, List.setIfInBounds_toArray, List.set_cons_zero, List.set_cons_succ]
                        refine seqI_take (v := .bool false) rfl (fun W hW => by go_simp) (fun _ _ _ h => h) ?_
                        simp only [Act.put, List.setIfInBounds_toArray, List.set_cons_zero, List.set_cons_succ]
                        refine seqI_nil ?_
                        as_aux_lemma =>
                          go_wp2_with fail
                          go_meet
                          exact ⟨rfl, HBq.out⟩
                    case rest =>
                      obtain ⟨rfl, HBc⟩ := hcut
                      obtain ⟨w13, rfl⟩ : ∃ x : World, x = wc := ⟨_, rfl⟩
                      have HB13 := Lib.hid (ext_trans HB11.out HBc.out)
                      clear HBc HB11
                      have HRX : Hid (w13.rangeAt X 0 [.int .i64 gf, .int .i64 gs, .int .i64 gl, .int .i64 gp, .slice ga gn gc]) := (HX.out.below HB13.out).range
                      have HRY : Hid (w13.rangeAt Y 0 [.int .i64 kf, .int .i64 ks, .int .i64 kl, .int .i64 kp, .slice ka kn kc]) := (HY.out.below HB13.out).range
                      as_aux_lemma =>
                        go_wp2_with (first | (refine wpList_load_mid rfl 28 (.tmp 4) rfl X 0 rfl [.int .i64 gf, .int .i64 gs, .int .i64 gl, .int .i64 gp, .slice ga gn gc] _ HRX.out Tryz.underlying28 rfl Tryz.deckSz ?_) | (refine wpList_load_mid rfl 28 (.tmp 5) rfl Y 0 rfl [.int .i64 kf, .int .i64 ks, .int .i64 kl, .int .i64 kp, .slice ka kn kc] _ HRY.out Tryz.underlying28 rfl Tryz.deckSz ?_))
                        refine (HDI.out _ HB13.out).mono ?_
                        rintro e w14 ⟨v14, rfl, ho, hb⟩
                        have HB14 := Lib.hid (ext_trans HB13.out hb)
                        obtain ⟨va, vc, rfl⟩ := own_shape ho
                        have HO14 := Lib.hid ho
                        clear ho
                        clear hb HRX HRY
                        as_aux_lemma =>
                          go_upto_region 8 with (fail)
                          go_cut [90] (fun v wx => v = .bool false ∧ Hid (Below w14.heap.size w14 wx))
                          case first =>
                            by_cases hE : E = 0
                            case pos =>
                              have HDR2 := Lib.hid (HDR.out hE)
                              have HXE := Lib.hid (HXS.out.2 hE)
                              subst hE
                              have x0 := (HX.out.below HB14.out).cell 0 rfl
                              have x1 := (HX.out.below HB14.out).cell 1 rfl
                              have x2 := (HX.out.below HB14.out).cell 2 rfl
                              have x3 := (HX.out.below HB14.out).cell 3 rfl
                              have x4 := (HX.out.below HB14.out).cell 4 rfl
                              have y0 := (HY.out.below HB14.out).cell 0 rfl
                              have y1 := (HY.out.below HB14.out).cell 1 rfl
                              have y2 := (HY.out.below HB14.out).cell 2 rfl
                              have y3 := (HY.out.below HB14.out).cell 3 rfl
                              have y4 := (HY.out.below HB14.out).cell 4 rfl
                              as_aux_lemma =>
                                go_wp2_with fail
                                refine (HDR2.out _ HB14.out).mono ?_
                                rintro e wa ⟨va9, rfl, ho9, hba⟩
                                have HOA := Lib.hid (own_keep HO14.out hba)
                                obtain ⟨vb9, vd9, rfl⟩ := own_shape ho9
                                have HO9 := Lib.hid ho9
                                have HBA := Lib.hid hba
                                clear ho9 hba x0 x1 x2 x3 x4 y0 y1 y2 y3 y4
                                as_aux_lemma =>
                                  go_wp2_with fail
                                  refine (equal_words HOA.out HO9.out HXE.out (by have := HXS.out.1; omega)).mono ?_
                                  rintro e wb ⟨rfl, hbb⟩
                                  have HBb := Lib.hid (ext_trans HBA.out hbb)
                                  clear hbb
                                  as_aux_lemma =>
                                    go_wp2_with fail
                                    go_meet
                                    exact ⟨rfl, HBb.out⟩
                            case neg =>
                              have hb1 : (E == 0) = false := beq_eq_false_iff_ne.2 hE
                              have hb2 : (E != 0) = true := by simp [hE]
                              have hb3 : (E != E) = false := by simp
                              as_aux_lemma =>
                                go_wp2_with fail
                                go_meet
                                exact ⟨rfl, Below.refl _ _⟩
                          case rest =>
                            obtain ⟨rfl, HBc⟩ := hcut
                            obtain ⟨w15, rfl⟩ : ∃ x : World, x = wc := ⟨_, rfl⟩
                            have HB15 := Lib.hid (ext_trans HB14.out HBc.out)
                            clear HBc HB14
                            have HRX : Hid (w15.rangeAt X 0 [.int .i64 gf, .int .i64 gs, .int .i64 gl, .int .i64 gp, .slice ga gn gc]) := (HX.out.below HB15.out).range
                            have HRY : Hid (w15.rangeAt Y 0 [.int .i64 kf, .int .i64 ks, .int .i64 kl, .int .i64 kp, .slice ka kn kc]) := (HY.out.below HB15.out).range
                            as_aux_lemma =>
                              go_wp2_with (first | (refine wpList_load_mid rfl 28 (.tmp 4) rfl X 0 rfl [.int .i64 gf, .int .i64 gs, .int .i64 gl, .int .i64 gp, .slice ga gn gc] _ HRX.out Tryz.underlying28 rfl Tryz.deckSz ?_) | (refine wpList_load_mid rfl 28 (.tmp 5) rfl Y 0 rfl [.int .i64 kf, .int .i64 ks, .int .i64 kl, .int .i64 kp, .slice ka kn kc] _ HRY.out Tryz.underlying28 rfl Tryz.deckSz ?_))
                              refine (HCH.out _ HB15.out).mono ?_
                              rintro e w16 ⟨rfl, hb⟩
                              have HB16 := Lib.hid (ext_trans HB15.out hb)
                              clear hb HRX HRY
                              as_aux_lemma =>
                                go_upto_region 11 with (fail)
                                go_cut [15] (fun v wx => v = .int .i64 F ∧ Hid (Below w16.heap.size w16 wx))
                                case first =>
                                  by_cases h1 : talk < 0
                                  case pos =>
                                    have hI : inB talk 0 86400000 = false := by unfold inB; rw [decide_eq_false (by omega)]; rfl
                                    have hq := HFQ.out
                                    rw [hI, if_neg (by decide)] at hq
                                    have HQ := Lib.hid hq
                                    clear hq
                                    as_aux_lemma =>
                                      go_wp2_with fail
                                      refine (when_t _).mono ?_
                                      rintro e w' ⟨rfl, hw9⟩
                                      subst hw9
                                      as_aux_lemma =>
                                        go_wp2_with ((refine wpList_val rfl (bl_ldk2 _ (fun _ => rfl) _ _ 99 106 E 1 rfl rfl rfl) ?_))
                                        refine (or_any E 1 w16.heap.size _ (by simp) (by go_simp) (by go_simp)).mono ?_
                                        rintro e w' ⟨rfl, rfl⟩
                                        rw [HQ.out]
                                        have hA : Hid (Below w16.heap.size w16 (w16.alloc (.cells #[.int .i64 E, .int .i64 1] 31))) := ext_alloc (Below.refl _ _)
                                        generalize World.alloc w16 _ = wz at hA ⊢
                                        as_aux_lemma =>
                                          go_wp2_with fail
                                          go_meet
                                          exact ⟨rfl, hA.out⟩
                                  case neg =>
                                    by_cases h2 : 86400000 < talk
                                    case pos =>
                                      have hI : inB talk 0 86400000 = false := by unfold inB; rw [decide_eq_false (show ¬ talk ≤ 86400000 by omega), Bool.and_false]
                                      have hq := HFQ.out
                                      rw [hI, if_neg (by decide)] at hq
                                      have HQ := Lib.hid hq
                                      clear hq
                                      as_aux_lemma =>
                                        go_wp2_with fail
                                        refine (when_t _).mono ?_
                                        rintro e w' ⟨rfl, hw9⟩
                                        subst hw9
                                        as_aux_lemma =>
                                          go_wp2_with ((refine wpList_val rfl (bl_ldk2 _ (fun _ => rfl) _ _ 99 106 E 1 rfl rfl rfl) ?_))
                                          refine (or_any E 1 w16.heap.size _ (by simp) (by go_simp) (by go_simp)).mono ?_
                                          rintro e w' ⟨rfl, rfl⟩
                                          rw [HQ.out]
                                          have hA : Hid (Below w16.heap.size w16 (w16.alloc (.cells #[.int .i64 E, .int .i64 1] 31))) := ext_alloc (Below.refl _ _)
                                          generalize World.alloc w16 _ = wz at hA ⊢
                                          as_aux_lemma =>
                                            go_wp2_with fail
                                            go_meet
                                            exact ⟨rfl, hA.out⟩
                                    case neg =>
                                      have hI : inB talk 0 86400000 = true := by unfold inB; rw [decide_eq_true (show 0 ≤ talk by omega), decide_eq_true (show talk ≤ 86400000 by omega)]; rfl
                                      have hq := HFQ.out
                                      rw [hI, if_pos rfl] at hq
                                      have HQ := Lib.hid hq
                                      clear hq
                                      as_aux_lemma =>
                                        go_wp2_with fail
                                        refine (when_f _).mono ?_
                                        rintro e w' ⟨rfl, hw9⟩
                                        subst hw9
                                        as_aux_lemma =>
                                          go_wp2_with ((refine wpList_val rfl (bl_ldk2 _ (fun _ => rfl) _ _ 99 106 E 0 rfl rfl rfl) ?_))
                                          refine (or_any E 0 w16.heap.size _ (by simp) (by go_simp) (by go_simp)).mono ?_
                                          rintro e w' ⟨rfl, rfl⟩
                                          rw [HQ.out]
                                          have hA : Hid (Below w16.heap.size w16 (w16.alloc (.cells #[.int .i64 E, .int .i64 0] 31))) := ext_alloc (Below.refl _ _)
                                          generalize World.alloc w16 _ = wz at hA ⊢
                                          as_aux_lemma =>
                                            go_wp2_with fail
                                            go_meet
                                            exact ⟨rfl, hA.out⟩
                                case rest =>
                                  obtain ⟨rfl, HBc⟩ := hcut
                                  obtain ⟨w17, rfl⟩ : ∃ x : World, x = wc := ⟨_, rfl⟩
                                  have HB17 := Lib.hid (ext_trans HB16.out HBc.out)
                                  clear HBc HB16
                                  as_aux_lemma =>
                                    go_upto_if 110 with (fail)
                                    go_cut [16] (fun v wx => v = .string ⟨(decS oc).toArray⟩ ∧ Hid (Below w17.heap.size w17 wx))
                                    case first =>
                                      by_cases hE : F = 0
                                      case pos =>
                                        have HCN2 := Lib.hid (HCN.out hE)
                                        have HOE := Lib.hid (HOX.out hE)
                                        subst hE
                                        have HRX : Hid (w17.rangeAt X 0 [.int .i64 gf, .int .i64 gs, .int .i64 gl, .int .i64 gp, .slice ga gn gc]) := (HX.out.below HB17.out).range
                                        have HRY : Hid (w17.rangeAt Y 0 [.int .i64 kf, .int .i64 ks, .int .i64 kl, .int .i64 kp, .slice ka kn kc]) := (HY.out.below HB17.out).range
                                        as_aux_lemma =>
                                          go_wp2_with (first | (refine wpList_load_mid rfl 28 (.tmp 4) rfl X 0 rfl [.int .i64 gf, .int .i64 gs, .int .i64 gl, .int .i64 gp, .slice ga gn gc] _ HRX.out Tryz.underlying28 rfl Tryz.deckSz ?_) | (refine wpList_load_mid rfl 28 (.tmp 5) rfl Y 0 rfl [.int .i64 kf, .int .i64 ks, .int .i64 kl, .int .i64 kp, .slice ka kn kc] _ HRY.out Tryz.underlying28 rfl Tryz.deckSz ?_))
                                          refine (HCN2.out _ HB17.out).mono ?_
                                          rintro e wb ⟨rfl, hbb⟩
                                          have HBb := Lib.hid hbb
                                          clear hbb
                                          as_aux_lemma =>
                                            go_wp2_with fail
                                            go_meet
                                            exact ⟨by rw [HOE.out], HBb.out⟩
                                      case neg =>
                                        have HOE := Lib.hid (HON.out hE)
                                        have hb1 : (F == 0) = false := beq_eq_false_iff_ne.2 hE
                                        have hb2 : (F != 0) = true := by simp [hE]
                                        have hb3 : (F != F) = false := by simp
                                        as_aux_lemma =>
                                          go_wp2_with fail
                                          go_meet
                                          exact ⟨by rw [HOE.out]; rfl, Below.refl _ _⟩
                                    case rest =>
                                      obtain ⟨rfl, HBc⟩ := hcut
                                      obtain ⟨w18, rfl⟩ : ∃ x : World, x = wc := ⟨_, rfl⟩
                                      have HB18 := Lib.hid (ext_trans HB17.out HBc.out)
                                      clear HBc HB17
                                      as_aux_lemma =>
                                        go_upto_region 15 with (fail)
                                        go_cut [128] (fun v wx => v = .bool false ∧ Hid (Below w18.heap.size w18 wx))
                                        case first =>
                                          have hb3 : (F != F) = false := by simp
                                          clear HCH HOX HON HCN
                                          cases oc with
                                          | none =>
                                            have e9 : decS none = [] := rfl
                                            rw [e9]
                                            as_aux_lemma =>
                                              go_wp2_with fail
                                              go_meet
                                              exact ⟨rfl, Below.refl _ _⟩
                                          | some m =>
                                            have e9 : decS (some m) = 43 :: m := rfl
                                            rw [e9]
                                            as_aux_lemma =>
                                              go_wp2_with fail
                                              go_meet
                                              exact ⟨rfl, Below.refl _ _⟩
                                        case rest =>
                                          obtain ⟨rfl, HBc⟩ := hcut
                                          obtain ⟨w19, rfl⟩ : ∃ x : World, x = wc := ⟨_, rfl⟩
                                          have HB19 := Lib.hid (ext_trans HB18.out HBc.out)
                                          clear HBc HB18
                                          have HRX : Hid (w19.rangeAt X 0 [.int .i64 gf, .int .i64 gs, .int .i64 gl, .int .i64 gp, .slice ga gn gc]) := (HX.out.below HB19.out).range
                                          have HRY : Hid (w19.rangeAt Y 0 [.int .i64 kf, .int .i64 ks, .int .i64 kl, .int .i64 kp, .slice ka kn kc]) := (HY.out.below HB19.out).range
                                          as_aux_lemma =>
                                            go_wp2_with (first | (refine wpList_load_mid rfl 28 (.tmp 4) rfl X 0 rfl [.int .i64 gf, .int .i64 gs, .int .i64 gl, .int .i64 gp, .slice ga gn gc] _ HRX.out Tryz.underlying28 rfl Tryz.deckSz ?_) | (refine wpList_load_mid rfl 28 (.tmp 5) rfl Y 0 rfl [.int .i64 kf, .int .i64 ks, .int .i64 kl, .int .i64 kp, .slice ka kn kc] _ HRY.out Tryz.underlying28 rfl Tryz.deckSz ?_))
                                            refine (HBE.out _ HB19.out).mono ?_
                                            rintro e w20 ⟨v20, rfl, ho, hb⟩
                                            have HB20 := Lib.hid (ext_trans HB19.out hb)
                                            obtain ⟨xa, xc, rfl⟩ := own_shape ho
                                            have HO20 := Lib.hid ho
                                            clear ho
                                            clear hb HRX HRY
                                            as_aux_lemma =>
                                              go_upto_region 18 with (fail)
                                              go_cut [149] (fun v wx => v = .bool false ∧ Hid (Below w20.heap.size w20 wx))
                                              case first =>
                                                by_cases hE : E = 0
                                                case pos =>
                                                  have HBR2 := Lib.hid (HBR.out hE)
                                                  have hXE := HBX.out hE
                                                  subst hE
                                                  subst hXE
                                                  have x0 := (HX.out.below HB20.out).cell 0 rfl
                                                  have x1 := (HX.out.below HB20.out).cell 1 rfl
                                                  have x2 := (HX.out.below HB20.out).cell 2 rfl
                                                  have x3 := (HX.out.below HB20.out).cell 3 rfl
                                                  have x4 := (HX.out.below HB20.out).cell 4 rfl
                                                  have y0 := (HY.out.below HB20.out).cell 0 rfl
                                                  have y1 := (HY.out.below HB20.out).cell 1 rfl
                                                  have y2 := (HY.out.below HB20.out).cell 2 rfl
                                                  have y3 := (HY.out.below HB20.out).cell 3 rfl
                                                  have y4 := (HY.out.below HB20.out).cell 4 rfl
                                                  as_aux_lemma =>
                                                    go_wp2_with fail
                                                    refine (HBR2.out _ HB20.out).mono ?_
                                                    rintro e wa ⟨va9, rfl, ho9, hba⟩
                                                    have HOA := Lib.hid (own_keep HO20.out hba)
                                                    obtain ⟨vb9, vd9, rfl⟩ := own_shape ho9
                                                    have HO9 := Lib.hid ho9
                                                    have HBA := Lib.hid hba
                                                    clear ho9 hba x0 x1 x2 x3 x4 y0 y1 y2 y3 y4
                                                    as_aux_lemma =>
                                                      go_wp2_with fail
                                                      refine (equal_own HOA.out HO9.out HBK.out.1 HBK.out.2).mono ?_
                                                      rintro e wb ⟨rfl, hbb⟩
                                                      have HBb := Lib.hid (ext_trans HBA.out hbb)
                                                      clear hbb
                                                      as_aux_lemma =>
                                                        go_wp2_with fail
                                                        go_meet
                                                        exact ⟨rfl, HBb.out⟩
                                                case neg =>
                                                  have hb1 : (E == 0) = false := beq_eq_false_iff_ne.2 hE
                                                  have hb2 : (E != 0) = true := by simp [hE]
                                                  have hb3 : (E != E) = false := by simp
                                                  as_aux_lemma =>
                                                    go_wp2_with fail
                                                    go_meet
                                                    exact ⟨rfl, Below.refl _ _⟩
                                              case rest =>
                                                obtain ⟨rfl, HBc⟩ := hcut
                                                obtain ⟨w21, rfl⟩ : ∃ x : World, x = wc := ⟨_, rfl⟩
                                                have HB21 := Lib.hid (ext_trans HB20.out HBc.out)
                                                clear HBc HB20
                                                have HRX : Hid (w21.rangeAt X 0 [.int .i64 gf, .int .i64 gs, .int .i64 gl, .int .i64 gp, .slice ga gn gc]) := (HX.out.below HB21.out).range
                                                have HRY : Hid (w21.rangeAt Y 0 [.int .i64 kf, .int .i64 ks, .int .i64 kl, .int .i64 kp, .slice ka kn kc]) := (HY.out.below HB21.out).range
                                                as_aux_lemma =>
                                                  go_wp2_with (first | (refine wpList_load_mid rfl 28 (.tmp 4) rfl X 0 rfl [.int .i64 gf, .int .i64 gs, .int .i64 gl, .int .i64 gp, .slice ga gn gc] _ HRX.out Tryz.underlying28 rfl Tryz.deckSz ?_) | (refine wpList_load_mid rfl 28 (.tmp 5) rfl Y 0 rfl [.int .i64 kf, .int .i64 ks, .int .i64 kl, .int .i64 kp, .slice ka kn kc] _ HRY.out Tryz.underlying28 rfl Tryz.deckSz ?_))
                                                  refine (HRA.out _ HB21.out).mono ?_
                                                  rintro e w22 ⟨ma, mn, mc, rfl, ho, hb⟩
                                                  have HB22 := Lib.hid (ext_trans HB21.out hb)
                                                  have HO22 := Lib.hid ho
                                                  clear ho
                                                  clear hb HRX HRY
                                                  have hz0 := Blk.new w22 [.int .i64 0, .int .i64 0, .int .i64 0, .int .i64 0, .slice none 0 0] 28
                                                  have HTH : Hid (World.there (w22.alloc (.cells #[.int .i64 0, .int .i64 0, .int .i64 0, .int .i64 0, .slice none 0 0] 28)) w22.heap.size 0 5) := hz0.th 5 (Nat.le_refl 5)
                                                  have HQ : Hid (Blk (World.setCells (w22.alloc (.cells #[.int .i64 0, .int .i64 0, .int .i64 0, .int .i64 0, .slice none 0 0] 28)) w22.heap.size 0 [.int .i64 ef, .int .i64 es, .int .i64 el, .int .i64 ep, .slice ma mn mc]) w22.heap.size [.int .i64 ef, .int .i64 es, .int .i64 el, .int .i64 ep, .slice ma mn mc] 28) := hz0.set5 (.int .i64 ef) (.int .i64 es) (.int .i64 el) (.int .i64 ep) (.slice ma mn mc)
                                                  have hA : Below w22.heap.size w22 (w22.alloc (.cells #[.int .i64 0, .int .i64 0, .int .i64 0, .int .i64 0, .slice none 0 0] 28)) := ext_alloc (Below.refl _ _)
                                                  have HB23 : Hid (Below w5.heap.size w5 (World.setCells (w22.alloc (.cells #[.int .i64 0, .int .i64 0, .int .i64 0, .int .i64 0, .slice none 0 0] 28)) w22.heap.size 0 [.int .i64 ef, .int .i64 es, .int .i64 el, .int .i64 ep, .slice ma mn mc])) := below_put HB22.out.size (ext_trans HB22.out hA) _
                                                  have HO23 : Hid (World.ownsRow (World.setCells (w22.alloc (.cells #[.int .i64 0, .int .i64 0, .int .i64 0, .int .i64 0, .slice none 0 0] 28)) w22.heap.size 0 [.int .i64 ef, .int .i64 es, .int .i64 el, .int .i64 ep, .slice ma mn mc]) w21.heap.size 51 3 (.slice ma mn mc) ers.length ((ers.map Rate.cells).flatten)) := own_gb (own_keep HO22.out hA) (setCells_gb w22.heap.size [.int .i64 ef, .int .i64 es, .int .i64 el, .int .i64 ep, .slice ma mn mc] 0) (fun b h1 h2 => by injection h2 with h2; have := (HO22.out.lt b h1).2; omega)
                                                  clear hz0 hA HO22
                                                  as_aux_lemma =>
                                                    go_wp2_with (refine wpList_store_mid rfl 28 (.tmp 18) (.tmp 154) rfl w22.heap.size 0 #[.int .i64 ef, .int .i64 es, .int .i64 el, .int .i64 ep, .slice ma mn mc] rfl rfl HTH.out Tryz.deckSz (by simp [Value.oneCell']) ?_; generalize (World.setCells (w22.alloc (.cells #[.int .i64 0, .int .i64 0, .int .i64 0, .int .i64 0, .slice none 0 0] 28)) w22.heap.size 0 [.int .i64 ef, .int .i64 es, .int .i64 el, .int .i64 ep, .slice ma mn mc]) = w23 at HQ HB23 HO23 ⊢; clear HTH; refine Hid.out ?_)
                                                    refine Lib.hid ?_
                                                    generalize w22.heap.size = Q at HQ ⊢
                                                    have HBB : Hid (∀ W, Below w23.heap.size w23 W → Below w5.heap.size w5 W) := fun W hW => ext_trans HB23.out hW
                                                    as_aux_lemma =>
                                                      go_upto_region 21 with (fail)
                                                      go_cut [15] (fun v wx => v = .int .i64 G1 ∧ Hid (Below w23.heap.size w23 wx))
                                                      case first =>
                                                        by_cases h1 : part < -1000
                                                        case pos =>
                                                          have hI : inB part (-1000) 10000 = false := by unfold inB; rw [decide_eq_false (by omega)]; rfl
                                                          have hq := HPQ.out
                                                          rw [hI, if_neg (by decide)] at hq
                                                          have HQ := Lib.hid hq
                                                          clear hq
                                                          as_aux_lemma =>
                                                            go_wp2_with fail
                                                            refine (when_t _).mono ?_
                                                            rintro e w' ⟨rfl, hw9⟩
                                                            subst hw9
                                                            as_aux_lemma =>
                                                              go_wp2_with ((refine wpList_val rfl (bl_ldk2 _ (fun _ => rfl) _ _ 156 163 E1 1 rfl rfl rfl) ?_))
                                                              refine (or_any E1 1 w23.heap.size _ (by simp) (by go_simp) (by go_simp)).mono ?_
                                                              rintro e w' ⟨rfl, rfl⟩
                                                              rw [HQ.out]
                                                              have hA : Hid (Below w23.heap.size w23 (w23.alloc (.cells #[.int .i64 E1, .int .i64 1] 31))) := ext_alloc (Below.refl _ _)
                                                              generalize World.alloc w23 _ = wz at hA ⊢
                                                              as_aux_lemma =>
                                                                go_wp2_with fail
                                                                go_meet
                                                                exact ⟨rfl, hA.out⟩
                                                        case neg =>
                                                          by_cases h2 : 10000 < part
                                                          case pos =>
                                                            have hI : inB part (-1000) 10000 = false := by unfold inB; rw [decide_eq_false (show ¬ part ≤ 10000 by omega), Bool.and_false]
                                                            have hq := HPQ.out
                                                            rw [hI, if_neg (by decide)] at hq
                                                            have HQ := Lib.hid hq
                                                            clear hq
                                                            as_aux_lemma =>
                                                              go_wp2_with fail
                                                              refine (when_t _).mono ?_
                                                              rintro e w' ⟨rfl, hw9⟩
                                                              subst hw9
                                                              as_aux_lemma =>
                                                                go_wp2_with ((refine wpList_val rfl (bl_ldk2 _ (fun _ => rfl) _ _ 156 163 E1 1 rfl rfl rfl) ?_))
                                                                refine (or_any E1 1 w23.heap.size _ (by simp) (by go_simp) (by go_simp)).mono ?_
                                                                rintro e w' ⟨rfl, rfl⟩
                                                                rw [HQ.out]
                                                                have hA : Hid (Below w23.heap.size w23 (w23.alloc (.cells #[.int .i64 E1, .int .i64 1] 31))) := ext_alloc (Below.refl _ _)
                                                                generalize World.alloc w23 _ = wz at hA ⊢
                                                                as_aux_lemma =>
                                                                  go_wp2_with fail
                                                                  go_meet
                                                                  exact ⟨rfl, hA.out⟩
                                                          case neg =>
                                                            have hI : inB part (-1000) 10000 = true := by unfold inB; rw [decide_eq_true (show (-1000) ≤ part by omega), decide_eq_true (show part ≤ 10000 by omega)]; rfl
                                                            have hq := HPQ.out
                                                            rw [hI, if_pos rfl] at hq
                                                            have HQ := Lib.hid hq
                                                            clear hq
                                                            as_aux_lemma =>
                                                              go_wp2_with fail
                                                              refine (when_f _).mono ?_
                                                              rintro e w' ⟨rfl, hw9⟩
                                                              subst hw9
                                                              as_aux_lemma =>
                                                                go_wp2_with ((refine wpList_val rfl (bl_ldk2 _ (fun _ => rfl) _ _ 156 163 E1 0 rfl rfl rfl) ?_))
                                                                refine (or_any E1 0 w23.heap.size _ (by simp) (by go_simp) (by go_simp)).mono ?_
                                                                rintro e w' ⟨rfl, rfl⟩
                                                                rw [HQ.out]
                                                                have hA : Hid (Below w23.heap.size w23 (w23.alloc (.cells #[.int .i64 E1, .int .i64 0] 31))) := ext_alloc (Below.refl _ _)
                                                                generalize World.alloc w23 _ = wz at hA ⊢
                                                                as_aux_lemma =>
                                                                  go_wp2_with fail
                                                                  go_meet
                                                                  exact ⟨rfl, hA.out⟩
                                                      case rest =>
                                                        obtain ⟨rfl, HBc⟩ := hcut
                                                        obtain ⟨w24, rfl⟩ : ∃ x : World, x = wc := ⟨_, rfl⟩
                                                        have HB24 := Lib.hid (ext_trans HB23.out HBc.out)
                                                        have HC24 : Hid (Below w23.heap.size w23 w24) := HBc.out
                                                        clear HBc HB23
                                                        have HR0 : Hid (Blk (w24.alloc (.cells #[.int .i64 0, .int .i64 0, .int .i64 0, .int .i64 0, .slice none 0 0] 28)) w24.heap.size [.int .i64 0, .int .i64 0, .int .i64 0, .int .i64 0, .slice none 0 0] 28) := Blk.new w24 [.int .i64 0, .int .i64 0, .int .i64 0, .int .i64 0, .slice none 0 0] 28
                                                        have HBr : Hid (Below w24.heap.size w24 (w24.alloc (.cells #[.int .i64 0, .int .i64 0, .int .i64 0, .int .i64 0, .slice none 0 0] 28))) := ext_alloc (Below.refl _ _)
                                                        have hRR : w24.heap.size ≤ w24.heap.size := Nat.le_refl _
                                                        as_aux_lemma =>
                                                          go_upto_if 167 with (fail)
                                                          generalize w24.alloc (.cells #[.int .i64 0, .int .i64 0, .int .i64 0, .int .i64 0, .slice none 0 0] 28) = wr at HR0 HBr ⊢
                                                          obtain ⟨R, hR⟩ : ∃ R, R = w24.heap.size := ⟨_, rfl⟩
                                                          rw [← hR] at HR0
                                                          have hRR : w24.heap.size ≤ R := by omega
                                                          simp only [← hR]
                                                          clear hR
                                                          go_cut [15] (fun v wx => v = .int .i64 RE ∧ ∃ (a9 : Option Addr) (n9 c9 : Nat), Hid (Blk wx R [.int .i64 ef, .int .i64 es, .int .i64 el, .int .i64 ep, .slice a9 n9 c9] 28) ∧ (∃ base : Nat, Hid (wx.ownsRow base 51 3 (.slice a9 n9 c9) ers.length ((ers.map Rate.cells).flatten))) ∧ Hid (Below w24.heap.size w24 wx))
                                                          case first =>
                                                            by_cases hG : G1 = 0
                                                            case neg =>
                                                              have hRE := HPE.out hG
                                                              have hRn : RE ≠ 0 := by rw [hRE]; exact hG
                                                              obtain ⟨rfl, rfl, rfl, rfl, rfl⟩ := HR12.out hRn
                                                              have hb1 : (G1 == 0) = false := beq_eq_false_iff_ne.2 hG
                                                              have HRE := Lib.hid hRE
                                                              clear hRE hRn
                                                              as_aux_lemma =>
                                                                go_wp2_with fail
                                                                go_meet
                                                                exact ⟨by rw [HRE.out], none, 0, 0, HR0.out, ⟨0, World.ownsRow_nil _ _ _ _⟩, HBr.out⟩
                                                            case pos =>
                                                              have HRD2 := Lib.hid (HRD.out hG)
                                                              have HRF2 := Lib.hid (HRF.out hG)
                                                              subst hG
                                                              have HB25 := Lib.hid (ext_trans HB24.out HBr.out)
                                                              have HRX : Hid (wr.rangeAt X 0 [.int .i64 gf, .int .i64 gs, .int .i64 gl, .int .i64 gp, .slice ga gn gc]) := (HX.out.below HB25.out).range
                                                              as_aux_lemma =>
                                                                go_wp2_with ((refine wpList_load_mid rfl 28 (.tmp 4) rfl X 0 rfl [.int .i64 gf, .int .i64 gs, .int .i64 gl, .int .i64 gp, .slice ga gn gc] _ HRX.out Tryz.underlying28 rfl Tryz.deckSz ?_))
                                                                refine (HRD2.out _ HB25.out).mono ?_
                                                                rintro e wa ⟨a9, n9, c9, rfl, ho9, hba⟩
                                                                have HRa := Lib.hid (HR0.out.below hba)
                                                                have hRlt := HR0.out.lt
                                                                have HBa := Lib.hid (HBr.out.trans (below_le hba (by have := HBr.out.size; omega)))
                                                                have HTH : Hid (wa.there R 0 5) := HRa.out.th 5 (Nat.le_refl 5)
                                                                have HRb : Hid (Blk (World.setCells wa R 0 [.int .i64 gf, .int .i64 U, .int .i64 gl, .int .i64 gp, .slice a9 n9 c9]) R [.int .i64 gf, .int .i64 U, .int .i64 gl, .int .i64 gp, .slice a9 n9 c9] 28) := HRa.out.set5 (.int .i64 gf) (.int .i64 U) (.int .i64 gl) (.int .i64 gp) (.slice a9 n9 c9)
                                                                have HBb : Hid (Below w24.heap.size w24 (World.setCells wa R 0 [.int .i64 gf, .int .i64 U, .int .i64 gl, .int .i64 gp, .slice a9 n9 c9])) := HBa.out.trans (below_setCells hRR _ _ _)
                                                                have HOb : Hid ((World.setCells wa R 0 [.int .i64 gf, .int .i64 U, .int .i64 gl, .int .i64 gp, .slice a9 n9 c9]).ownsRow wr.heap.size 51 3 (.slice a9 n9 c9) RR.length ((RR.map Rate.cells).flatten)) := own_gb ho9 (setCells_gb R [.int .i64 gf, .int .i64 U, .int .i64 gl, .int .i64 gp, .slice a9 n9 c9] 0) (fun b h1 h2 => by injection h2 with h2; have := (ho9.lt b h1).1; omega)
                                                                clear ho9 hba HRX HB25 HRa HBa HR0 HBr
                                                                as_aux_lemma =>
                                                                  go_wp2_with (refine wpList_store_mid rfl 28 (.tmp 19) (.tmp 170) rfl R 0 #[.int .i64 gf, .int .i64 U, .int .i64 gl, .int .i64 gp, .slice a9 n9 c9] rfl rfl HTH.out Tryz.deckSz (by simp [Value.oneCell']) ?_; generalize World.setCells wa R 0 _ = wb at HRb HBb HOb ⊢; clear HTH; refine Hid.out ?_)
                                                                  refine Lib.hid ?_
                                                                  have HRR : Hid (wb.rangeAt R 0 [.int .i64 gf, .int .i64 U, .int .i64 gl, .int .i64 gp, .slice a9 n9 c9]) := HRb.out.range
                                                                  as_aux_lemma =>
                                                                    go_wp2_with (refine wpList_load_mid rfl 28 (.tmp 19) rfl R 0 rfl [.int .i64 gf, .int .i64 U, .int .i64 gl, .int .i64 gp, .slice a9 n9 c9] _ HRR.out Tryz.underlying28 rfl Tryz.deckSz ?_)
                                                                    refine (HRF2.out wb _ a9 n9 c9 HOb.out).mono ?_
                                                                    rintro e wd ⟨rfl, hbd⟩
                                                                    have HRd := Lib.hid (HRb.out.below hbd)
                                                                    have HOd := Lib.hid (own_keep HOb.out hbd)
                                                                    have HBd := Lib.hid (HBb.out.trans (below_le hbd (by have := HBb.out.size; omega)))
                                                                    clear hbd HRR HRb HBb HOb
                                                                    by_cases hRE : RE = 0
                                                                    case pos =>
                                                                      obtain ⟨rfl, rfl, rfl, rfl, rfl⟩ := HR02.out hRE
                                                                      subst hRE
                                                                      as_aux_lemma =>
                                                                        go_wp2_with fail
                                                                        go_meet
                                                                        exact ⟨rfl, a9, n9, c9, HRd.out, ⟨_, HOd.out⟩, HBd.out⟩
                                                                    case neg =>
                                                                      obtain ⟨rfl, rfl, rfl, rfl, rfl⟩ := HR12.out hRE
                                                                      have hb1 : (RE == 0) = false := beq_eq_false_iff_ne.2 hRE
                                                                      have HTH : Hid (wd.there R 0 5) := HRd.out.th 5 (Nat.le_refl 5)
                                                                      have HRe : Hid (Blk (World.setCells wd R 0 [.int .i64 0, .int .i64 0, .int .i64 0, .int .i64 0, .slice none 0 0]) R [.int .i64 0, .int .i64 0, .int .i64 0, .int .i64 0, .slice none 0 0] 28) := HRd.out.set5 (.int .i64 0) (.int .i64 0) (.int .i64 0) (.int .i64 0) (.slice none 0 0)
                                                                      have HBe : Hid (Below w24.heap.size w24 (World.setCells wd R 0 [.int .i64 0, .int .i64 0, .int .i64 0, .int .i64 0, .slice none 0 0])) := HBd.out.trans (below_setCells hRR _ _ _)
                                                                      clear HRd HOd HBd
                                                                      as_aux_lemma =>
                                                                        go_wp2_with (refine wpList_store_mid rfl 28 (.tmp 19) (.tmp 175) rfl R 0 #[.int .i64 0, .int .i64 0, .int .i64 0, .int .i64 0, .slice none 0 0] rfl rfl HTH.out Tryz.deckSz (by simp [Value.oneCell']) ?_; generalize World.setCells wd R 0 _ = we at HRe HBe ⊢; clear HTH; refine Hid.out ?_)
                                                                        refine Lib.hid ?_
                                                                        as_aux_lemma =>
                                                                          go_wp2_with fail
                                                                          go_meet
                                                                          exact ⟨rfl, none, 0, 0, HRe.out, ⟨0, World.ownsRow_nil _ _ _ _⟩, HBe.out⟩
                                                          case rest =>
                                                            obtain ⟨rfl, a9, n9, c9, HRx, ⟨base9, HOx⟩, HBx⟩ := hcut
                                                            obtain ⟨w25, rfl⟩ : ∃ x : World, x = wc := ⟨_, rfl⟩
                                                            have HC25 : Hid (Below w23.heap.size w23 w25) := ext_trans HC24.out HBx.out
                                                            have HB25 := Lib.hid (HBB.out _ HC25.out)
                                                            have HOy := Lib.hid (own_keep HO23.out HC25.out)
                                                            have hb4 : (RE == RE) = true := by simp
                                                            have q0 := (HQ.out.below HC25.out).cell 0 rfl
                                                            have q1 := (HQ.out.below HC25.out).cell 1 rfl
                                                            have q2 := (HQ.out.below HC25.out).cell 2 rfl
                                                            have q3 := (HQ.out.below HC25.out).cell 3 rfl
                                                            have q4 := (HQ.out.below HC25.out).cell 4 rfl
                                                            have r0 := HRx.out.cell 0 rfl
                                                            have r1 := HRx.out.cell 1 rfl
                                                            have r2 := HRx.out.cell 2 rfl
                                                            have r3 := HRx.out.cell 3 rfl
                                                            have r4 := HRx.out.cell 4 rfl
                                                            clear HRx HBx
                                                            as_aux_lemma =>
                                                              go_wp2_with fail
                                                              refine (same_own ef es el ep HOy.out HOx.out HRK.out.1 HRK.out.2).mono ?_
                                                              rintro e wy ⟨rfl, hbb⟩
                                                              have HBy := Lib.hid (ext_trans HB25.out hbb)
                                                              clear hbb q0 q1 q2 q3 q4 r0 r1 r2 r3 r4 HOy HOx
                                                              as_aux_lemma =>
                                                                go_wp2_with fail
                                                                refine (carried_any _).mono ?_
                                                                rintro e wz ⟨rfl, hbb⟩
                                                                have HBz := Lib.hid (ext_trans HBy.out hbb)
                                                                clear hbb HBy
                                                                as_aux_lemma =>
                                                                  go_wp2_with fail
                                                                  go_ret
                                                                  exact ⟨rfl, HFIN.out _ HBz.out⟩
end Go.Proofs.YtacekbbndamkmaaGreatDoor
