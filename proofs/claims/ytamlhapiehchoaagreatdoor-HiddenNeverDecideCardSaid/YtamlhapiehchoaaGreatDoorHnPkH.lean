/- What is proved here: lemmas and contracts for the statement, put together out of smaller texts (DplRp, DplBeg, DplDec, CovMath, CovEnds). No condition beyond those stated. -/
import Derived.Test.YtamlhapiehchoaaGreatDoorHnPkG
import Derived.Test.YtamlhapiehchoaaGreatDoorHnPkC
import Derived.Test.YtamlhapiehchoaaGreatDoorHnPkE
import Derived.Test.YtamlhapiehchoaaGreatDoorHnPkA
import Derived.Test.YtamlhapiehchoaaGreatDoorHnPkF
set_option linter.unusedVariables false
set_option linter.unusedSimpArgs false
namespace Go.Proofs.YtamlhapiehchoaaGreatDoor
open Go.RowKit Go.Lib

def sameR (x r : DRule) : Bool := decide (x.els.str = r.els.str ∧ x.hours = r.hours)
theorem sameR_is (a b c d : List UInt8) : decide (a = b ∧ c = d) = ((a == b) && (c == d)) := by
  by_cases h1 : a = b <;> by_cases h2 : c = d <;> simp [h1, h2]
theorem wp_valR {P : Program} {o : Oper} {a : Act} {w w2 : World} {v : Value} {K : Act → World → Prop} {Q : Exit → Act → World → Prop} (h : (execOp a.eval o).run P w = .ok (.value v) w2) (hK : K (a.put o.dst v) w2) : Oper.wp P o a w K Q := by
  unfold Oper.wp; rw [h]; exact hK
theorem Tryz.infoRuleP : (Tryz.prog.info? 63).map (fun i => (i.zero, i.size, i.bytes)) = some (some (.agg #[.string ⟨#[]⟩, .int .i64 0, .string ⟨#[]⟩, .int .i64 0, .string ⟨#[]⟩, .string ⟨#[]⟩]), 6, 80) := by kernel_rfl
theorem bl_drp0 (e : Operand → Value) (he : ∀ v, e (.const v) = v) (o : Oper) (w : World) (i0 : Nat) (p0_0 : ByteArray) (a0_1 : Option Addr) (n0_1 : Nat) (m0_1 : Nat) (a0_2 : Option Addr) (n0_2 : Nat) (m0_2 : Nat) (ho : o.op = .buildSlice 26 1 #[(0, .tmp i0)]) (h0 : e (.tmp i0) = .agg #[.string p0_0, .slice a0_1 n0_1 m0_1, .slice a0_2 n0_2 m0_2]) :
   (execOp e o).run Tryz.prog w = .ok (.value (.slice (some ⟨w.heap.size, 0, none⟩) 1 1)) (w.alloc (.cells #[.string p0_0, .slice a0_1 n0_1 m0_1, .slice a0_2 n0_2 m0_2] 58)) := by
  unfold execOp
  rw [ho]
  simp only [List.map_toArray, List.map_cons, List.map_nil, h0]
  kernel_rfl
theorem bl_drp1 (e : Operand → Value) (he : ∀ v, e (.const v) = v) (o : Oper) (w : World) (i0 : Nat) (p0_0 : ByteArray) (z0_1 : Int) (p0_2 : ByteArray) (z0_3 : Int) (p0_4 : ByteArray) (p0_5 : ByteArray) (ho : o.op = .buildSlice 55 1 #[(0, .tmp i0)]) (h0 : e (.tmp i0) = .agg #[.string p0_0, .int .i64 z0_1, .string p0_2, .int .i64 z0_3, .string p0_4, .string p0_5]) :
   (execOp e o).run Tryz.prog w = .ok (.value (.slice (some ⟨w.heap.size, 0, none⟩) 1 1)) (w.alloc (.cells #[.string p0_0, .int .i64 z0_1, .string p0_2, .int .i64 z0_3, .string p0_4, .string p0_5] 63)) := by
  unfold execOp
  rw [ho]
  simp only [List.map_toArray, List.map_cons, List.map_nil, h0]
  kernel_rfl
theorem bl_drp2 (e : Operand → Value) (he : ∀ v, e (.const v) = v) (o : Oper) (w : World)  (p0 : ByteArray) (ho : o.op = .buildSlice 56 1 #[(0, .const (.string p0))])  :
   (execOp e o).run Tryz.prog w = .ok (.value (.slice (some ⟨w.heap.size, 0, none⟩) 1 1)) (w.alloc (.cells #[.string p0] 9)) := by
  unfold execOp
  rw [ho]
  simp only [List.map_toArray, List.map_cons, List.map_nil, he]
  kernel_rfl
theorem bl_drp3 (e : Operand → Value) (he : ∀ v, e (.const v) = v) (o : Oper) (w : World)  (p0 : ByteArray) (p1 : ByteArray) (ho : o.op = .buildSlice 56 2 #[(0, .const (.string p0)), (1, .const (.string p1))])  :
   (execOp e o).run Tryz.prog w = .ok (.value (.slice (some ⟨w.heap.size, 0, none⟩) 2 2)) (w.alloc (.cells #[.string p0, .string p1] 9)) := by
  unfold execOp
  rw [ho]
  simp only [List.map_toArray, List.map_cons, List.map_nil, he]
  kernel_rfl
theorem bl_drp4 (e : Operand → Value) (he : ∀ v, e (.const v) = v) (o : Oper) (w : World) (i1 : Nat) (i2 : Nat) (i3 : Nat) (a0 : Option Addr) (n0 : Nat) (m0 : Nat) (a1 : Option Addr) (n1 : Nat) (m1 : Nat) (a2 : Option Addr) (n2 : Nat) (m2 : Nat) (a3 : Option Addr) (n3 : Nat) (m3 : Nat) (ho : o.op = .buildSlice 74 4 #[(0, .const (.slice a0 n0 m0)), (1, .tmp i1), (2, .tmp i2), (3, .tmp i3)]) (h1 : e (.tmp i1) = .slice a1 n1 m1) (h2 : e (.tmp i2) = .slice a2 n2 m2) (h3 : e (.tmp i3) = .slice a3 n3 m3) :
   (execOp e o).run Tryz.prog w = .ok (.value (.slice (some ⟨w.heap.size, 0, none⟩) 4 4)) (w.alloc (.cells #[.slice a0 n0 m0, .slice a1 n1 m1, .slice a2 n2 m2, .slice a3 n3 m3] 56)) := by
  unfold execOp
  rw [ho]
  simp only [List.map_toArray, List.map_cons, List.map_nil, he, h1, h2, h3]
  kernel_rfl
theorem bl_drp5 (e : Operand → Value) (he : ∀ v, e (.const v) = v) (o : Oper) (w : World) (i1 : Nat) (a0 : Option Addr) (n0 : Nat) (m0 : Nat) (a1 : Option Addr) (n1 : Nat) (m1 : Nat) (ho : o.op = .buildSlice 74 2 #[(0, .const (.slice a0 n0 m0)), (1, .tmp i1)]) (h1 : e (.tmp i1) = .slice a1 n1 m1) :
   (execOp e o).run Tryz.prog w = .ok (.value (.slice (some ⟨w.heap.size, 0, none⟩) 2 2)) (w.alloc (.cells #[.slice a0 n0 m0, .slice a1 n1 m1] 56)) := by
  unfold execOp
  rw [ho]
  simp only [List.map_toArray, List.map_cons, List.map_nil, he, h1]
  kernel_rfl
theorem bl_drp6 (e : Operand → Value) (he : ∀ v, e (.const v) = v) (o : Oper) (w : World)  (p0 : ByteArray) (p1 : ByteArray) (p2 : ByteArray) (ho : o.op = .buildSlice 56 3 #[(0, .const (.string p0)), (1, .const (.string p1)), (2, .const (.string p2))])  :
   (execOp e o).run Tryz.prog w = .ok (.value (.slice (some ⟨w.heap.size, 0, none⟩) 3 3)) (w.alloc (.cells #[.string p0, .string p1, .string p2] 9)) := by
  unfold execOp
  rw [ho]
  simp only [List.map_toArray, List.map_cons, List.map_nil, he]
  kernel_rfl
set_option maxRecDepth 100000 in
set_option maxHeartbeats 4000000 in
theorem same_call (x r : DRule) (B : Nat) (W : World) (hB : Blk W B r.cells 63) : Calls Tryz.prog 29 #[.agg x.cells.toArray, .pointer (some ⟨B, 0, none⟩)] W (BoolP (sameR x r) W) := by
  have hlt := hB.lt
  have h0 := hB.cell 0 rfl
  have h5 := hB.cell 5 rfl
  have HSR : Hid (sameR x r = decide (x.els.str = r.els.str ∧ x.hours = r.hours)) := rfl
  clear hB
  generalize sameR x r = res at HSR ⊢
  obtain ⟨xe, xn, xp, xt, xm, xh⟩ := x
  obtain ⟨re, rn, rp, rt, rm, rh⟩ := r
  unfold DRule.cells
  simp only at h0 h5 HSR ⊢
  generalize xe.str = xs at HSR ⊢
  generalize re.str = rs at HSR h0
  have hne : B ≠ W.heap.size := by omega
  have X1 : Hid (Blk (W.alloc (.cells #[.string ⟨xs.toArray⟩, .int .i64 xn, .string ⟨xp.toArray⟩, .int .i64 xt, .string ⟨xm.toArray⟩, .string ⟨xh.toArray⟩] 63)) W.heap.size [.string ⟨xs.toArray⟩, .int .i64 xn, .string ⟨xp.toArray⟩, .int .i64 xt, .string ⟨xm.toArray⟩, .string ⟨xh.toArray⟩] 63) := Blk.new W _ _
  have HB1 : Hid (Below W.heap.size W (W.alloc (.cells #[.string ⟨xs.toArray⟩, .int .i64 xn, .string ⟨xp.toArray⟩, .int .i64 xt, .string ⟨xm.toArray⟩, .string ⟨xh.toArray⟩] 63))) := ext_alloc (Below.refl _ _)
  have g0 := (HB1.out.cell (p := ⟨B, 0, none⟩) hlt).trans h0
  have g5 := (HB1.out.cell (p := ⟨B, 5, none⟩) hlt).trans h5
  clear h0 h5
  go_enter Tryz.func29, Tryz.ntmps29
  go_upto_region 1 with (fail)
  generalize W.alloc (.cells #[.string ⟨xs.toArray⟩, .int .i64 xn, .string ⟨xp.toArray⟩, .int .i64 xt, .string ⟨xm.toArray⟩, .string ⟨xh.toArray⟩] 63) = w1 at X1 HB1 g0 g5 ⊢
  generalize W.heap.size = X at X1 ⊢
  have x0 := X1.out.cell 0 rfl
  have x5 := X1.out.cell 5 rfl
  by_cases h1 : xs = rs
  · subst h1
    by_cases h2 : xh = rh
    · subst h2
      obtain rfl : res = true := by rw [HSR.out]; simp
      go_wp2_with fail
      go_ret
      exact ⟨rfl, HB1.out⟩
    · obtain rfl : res = false := by rw [HSR.out]; simp [h2]
      have hb2 : (xh == rh) = false := beq_eq_false_iff_ne.2 h2
      clear h2
      go_wp2_with fail
      go_ret
      exact ⟨by first | rfl | (rw [hb2]), HB1.out⟩
  · obtain rfl : res = false := by rw [HSR.out]; simp [h1]
    have hb1 : (xs == rs) = false := beq_eq_false_iff_ne.2 h1
    clear h1
    go_wp2_with fail
    go_ret
    exact ⟨by first | rfl | (rw [hb1]), HB1.out⟩
theorem same_pred (r : DRule) (B : Nat) (w : World) (hB : Blk w B r.cells 63) : PredBelow Tryz.prog 29 #[.pointer (some ⟨B, 0, none⟩)] (fun x : DRule => .agg (DRule.cells x).toArray) (fun x => sameR x r) w := fun W x hb =>
  (same_call x r B W (hB.below hb)).mono fun e w' h => ⟨h.1, ext_trans hb h.2⟩
/-- A plan in the making: the boxes, the keys, the hours, and the contexts so far. -/
structure PlW (b0 Q P KB q : Nat) (va hv : Value) (hrs : List Hrs) (ctxs : List DCtx) (W : World) : Prop where
  q_ : Blk W Q [.slice none 0 0, .slice none 0 0] 29
  p_ : Blk W P [va, hv] 29
  kb : Blk W KB [.string ⟨#[99, 97]⟩, .string ⟨#[99, 98]⟩, .string ⟨#[99, 99]⟩] 9
  hh : HrsAt W b0 hv hrs
  cx : W.ownsRow b0 58 3 va q ((ctxs.map DCtx.cells).flatten)
  len : ctxs.length = q
  each : ∀ i, i < q → RulesAt W b0 (.slice (ctxs.getD i noDCtx).ra (ctxs.getD i noDCtx).rn (ctxs.getD i noDCtx).rc) (ctxs.getD i noDCtx).rules ∧ (ctxs.getD i noDCtx).rules.length ≤ 10 ∧ (ctxs.getD i noDCtx).key = ctxKey i ∧ (ctxs.getD i noDCtx).ia = none ∧ (ctxs.getD i noDCtx).inn = 0 ∧ (ctxs.getD i noDCtx).ic = 0 ∧ (ctxs.getD i noDCtx).incs = []
theorem PlW.keeps {S b0 Q P KB q : Nat} {va hv : Value} {hrs : List Hrs} {ctxs : List DCtx} {W W' : World} (h : PlW b0 Q P KB q va hv hrs ctxs W) (hk : Keeps S W W') (hS : S < b0) (hn : Q ≠ S ∧ P ≠ S ∧ KB ≠ S) : PlW b0 Q P KB q va hv hrs ctxs W' := ⟨h.q_.keeps hk hn.1, h.p_.keeps hk hn.2.1, h.kb.keeps hk hn.2.2, h.hh.keeps hk hS, own_keeps h.cx hk hS, h.len, fun i hi => ⟨(h.each i hi).1.keeps hk hS, (h.each i hi).2⟩⟩
theorem rules_grown {W W' : World} {base b2 : Nat} {v v2 : Value} {n s : Nat} {e : TypeId} {ys : List Value} {l : List DRule} (h : RulesAt W base v l) (h2 : W.ownsRow b2 e s v2 n ys) (he : 63 ≠ e) (hg : W.grownBy W' v2.ownBlock) : RulesAt W' base v l := ⟨own_grown h.own h2 he hg, h.ok, h.once⟩
/-- One context more. -/
theorem PlW.push {b0 Q P KB q : Nat} {va va' hv : Value} {hrs : List Hrs} {ctxs : List DCtx} {W W8 W9 : World} {c : DCtx} (h : PlW b0 Q P KB q va hv hrs ctxs W) (hW : Below W.heap.size W W8) (hg : W8.grownBy W9 va.ownBlock) (ho : W9.ownsRow b0 58 3 va' (q + 1) ((ctxs.map DCtx.cells).flatten ++ c.cells)) (hc : RulesAt W8 b0 (.slice c.ra c.rn c.rc) c.rules ∧ c.rules.length ≤ 10 ∧ c.key = ctxKey q ∧ c.ia = none ∧ c.inn = 0 ∧ c.ic = 0 ∧ c.incs = []) (hPQ : P ≠ Q ∧ P ≠ KB) (hb0 : b0 ≤ P) : PlW b0 Q P KB (q + 1) va' hv hrs (ctxs ++ [c]) (W9.setCell ⟨P, 0, none⟩ va') := by
  have ox := own_more h.cx hW
  have k1 : Blk W9 Q [.slice none 0 0, .slice none 0 0] 29 := (h.q_.below hW).grown hg (own_blk ox (h.q_.below hW) (by decide))
  have k2 : Blk W9 P [va, hv] 29 := (h.p_.below hW).grown hg (own_blk ox (h.p_.below hW) (by decide))
  have k3 : Blk W9 KB [.string ⟨#[99, 97]⟩, .string ⟨#[99, 98]⟩, .string ⟨#[99, 99]⟩] 9 := (h.kb.below hW).grown hg (own_blk ox (h.kb.below hW) (by decide))
  have hh8 : HrsAt W8 b0 hv hrs := ⟨own_more h.hh.own hW, fun x hx => (h.hh.each x hx).below hW, h.hh.two, h.hh.keys⟩
  have hh9 : HrsAt W9 b0 hv hrs := ⟨own_grown hh8.own ox (by decide) hg, fun x hx => (hh8.each x hx).other ox (by decide) (by decide) hg, hh8.two, hh8.keys⟩
  have hbP : W9.grownBy (W9.setCell ⟨P, 0, none⟩ va') (some P) := setCells_gb P [va'] 0
  have hot : ∀ {base e s n : Nat} {v : Value} {xs : List Value}, W9.ownsRow base e s v n xs → e ≠ 29 → (W9.setCell ⟨P, 0, none⟩ va').ownsRow base e s v n xs := fun hx he => own_gb hx hbP (fun b hb e2 => own_blk hx k2 he (by rw [hb, e2]))
  refine ⟨k1.far (p := ⟨P, 0, none⟩) hPQ.1, k2.put 0 _, k3.far (p := ⟨P, 0, none⟩) hPQ.2, ⟨hot hh9.own (by decide), fun x hx => ⟨hot (hh9.each x hx).own1 (by decide), hot (hh9.each x hx).own2 (by decide), (hh9.each x hx).ok⟩, hh9.two, hh9.keys⟩, ?_, by rw [List.length_append, h.len]; rfl, fun i hi => ?_⟩
  · rw [List.map_append, List.flatten_append]
    have e : ([c].map DCtx.cells).flatten = c.cells := by simp
    rw [e]
    exact hot ho (by decide)
  · by_cases hiq : i < q
    · have e : (ctxs ++ [c]).getD i noDCtx = ctxs.getD i noDCtx := by rw [List.getD_eq_getElem?_getD, List.getElem?_append_left (by rw [h.len]; exact hiq), ← List.getD_eq_getElem?_getD]
      rw [e]
      obtain ⟨e1, e2⟩ := h.each i hiq
      have e3 := rules_grown (e1.below hW) ox (by decide) hg
      exact ⟨⟨hot e3.own (by decide), e3.ok, e3.once⟩, e2⟩
    · have hiq2 : i = q := by omega
      subst hiq2
      have e : (ctxs ++ [c]).getD i noDCtx = c := by rw [List.getD_eq_getElem?_getD, List.getElem?_append_right (by rw [h.len]; exact Nat.le_refl _), h.len, Nat.sub_self]; rfl
      rw [e]
      have e3 := rules_grown hc.1 ox (by decide) hg
      exact ⟨⟨hot e3.own (by decide), e3.ok, e3.once⟩, hc.2⟩
theorem keeps_up {S : Nat} {a w w' : World} (h : Keeps S a w) (b : Below a.heap.size w w') : Keeps S a w' := ⟨b.os.trans h.os, b.tape.trans h.tape, b.output.trans h.output, Nat.le_trans h.size b.size, fun k hk hn => (b.block k hk).trans (h.block k hk hn)⟩
def DplPost (S k : Nat) (w : World) (e : Ending) (w' : World) : Prop := ∃ p : DPlan, e = .returned (.agg p.cells.toArray) ∧ (∀ W, Keeps S w' W → DPlanFine W p) ∧ StreamOk w' S k ∧ Keeps S w w'
set_option maxRecDepth 100000 in
set_option maxHeartbeats 8000000 in
theorem rightPlan_any (S k : Nat) (most : Nat) (hmo : most ≤ 4) (w : World) (h : StreamOk w S k) (hk : k ≤ 500000) : Calls Tryz.prog 6 #[.pointer (some ⟨S, 0, none⟩), .int .i64 most] w (DplPost S (k + 400) w) := by
  obtain ⟨i1, hi1, hy0, hy1, hy2⟩ := info_parts Tryz.infoCtxO
  obtain ⟨i2, hi2, hx0, hx1, hx2⟩ := info_parts Tryz.infoRuleP
  have hSw := h.lt
  have HS1 : Hid (StreamOk (w.alloc (.cells #[.slice none 0 0, .slice none 0 0] 29)) S k) := h.below (ext_alloc (Below.refl _ _))
  have HK1 : Hid (Keeps S w (w.alloc (.cells #[.slice none 0 0, .slice none 0 0] 29))) := Keeps.of_below (ext_alloc (Below.refl _ _))
  have Q1 : Hid (Blk (w.alloc (.cells #[.slice none 0 0, .slice none 0 0] 29)) w.heap.size [.slice none 0 0, .slice none 0 0] 29) := Blk.new w _ _
  have hQ1 : w.heap.size < (w.alloc (.cells #[.slice none 0 0, .slice none 0 0] 29)).heap.size := by simp
  clear h
  go_enter Tryz.func6, Tryz.ntmps6
  go_upto_region 1 with (fail)
  generalize (w.alloc (.cells #[.slice none 0 0, .slice none 0 0] 29)) = w1 at HS1 HK1 Q1 hQ1 ⊢
  obtain ⟨Q, hQ⟩ : ∃ Q, Q = w.heap.size := ⟨_, rfl⟩
  rw [← hQ] at Q1 hQ1
  simp only [← hQ]
  have hbQ : w.heap.size ≤ Q := by omega
  have hSQ1 : S + 1 ≤ Q := by omega
  have hw1 : w.heap.size ≤ w1.heap.size := by omega
  clear hQ
  as_aux_lemma =>
    go_wp2_with fail
    refine (rightHours_any S k _ HS1.out (by omega)).mono ?_
    rintro e w2 ⟨hv, hrs, rfl, hl2, hat⟩
    have hown := hat.own
    rw [hl2] at hown
    obtain ⟨hg, hc, rfl⟩ : ∃ g c, hv = .slice (some ⟨g, 0, none⟩) 2 c := by
      rcases shape_own hown with ⟨h0, _⟩ | ⟨g, c, e, _⟩
      · omega
      · exact ⟨g, c, e⟩
    have HS2 := Lib.hid hat.stream
    have HK2 := Lib.hid (HK1.out.trans hat.keeps)
    have Q2 := Lib.hid (Q1.out.keeps hat.keeps (by omega))
    have HH2 : Hid (HrsAt w2 w.heap.size (.slice (some ⟨hg, 0, none⟩) 2 hc) hrs) := ⟨own_lower hat.own (by omega), fun x hx => ⟨own_lower (hat.each x hx).own1 (by omega), own_lower (hat.each x hx).own2 (by omega), (hat.each x hx).ok⟩, hl2, fun i hi => by
      have := hat.keys i (by rw [hl2]; exact hi)
      rw [List.getElem?_map, List.getElem?_eq_getElem (by rw [hl2]; exact hi)] at this
      rw [List.getD_eq_getElem?_getD, List.getElem?_eq_getElem (by rw [hl2]; exact hi)]
      exact Option.some.inj this⟩
    clear hown hat HS1 HK1 Q1
    have hw2 : w.heap.size ≤ w2.heap.size := HK2.out.size
    have hQ2 : Q < w2.heap.size := Q2.out.lt
    have P3 : Hid (Blk ((w2.alloc (.cells #[.slice none 0 0, .slice (some ⟨hg, 0, none⟩) 2 hc] 29)).alloc (.cells #[.string ⟨#[99, 97]⟩, .string ⟨#[99, 98]⟩, .string ⟨#[99, 99]⟩] 9)) w2.heap.size [.slice none 0 0, .slice (some ⟨hg, 0, none⟩) 2 hc] 29) := (Blk.new w2 _ _).alloc _
    have KB3 : Hid (Blk ((w2.alloc (.cells #[.slice none 0 0, .slice (some ⟨hg, 0, none⟩) 2 hc] 29)).alloc (.cells #[.string ⟨#[99, 97]⟩, .string ⟨#[99, 98]⟩, .string ⟨#[99, 99]⟩] 9)) (w2.heap.size + 1) [.string ⟨#[99, 97]⟩, .string ⟨#[99, 98]⟩, .string ⟨#[99, 99]⟩] 9) := by
      have := Blk.new (w2.alloc (.cells #[.slice none 0 0, .slice (some ⟨hg, 0, none⟩) 2 hc] 29)) [.string ⟨#[99, 97]⟩, .string ⟨#[99, 98]⟩, .string ⟨#[99, 99]⟩] 9
      rw [show (w2.alloc (.cells #[.slice none 0 0, .slice (some ⟨hg, 0, none⟩) 2 hc] 29)).heap.size = w2.heap.size + 1 by simp] at this
      exact this
    have hA : Below w2.heap.size w2 ((w2.alloc (.cells #[.slice none 0 0, .slice (some ⟨hg, 0, none⟩) 2 hc] 29)).alloc (.cells #[.string ⟨#[99, 97]⟩, .string ⟨#[99, 98]⟩, .string ⟨#[99, 99]⟩] 9)) := ext_alloc (ext_alloc (Below.refl _ _))
    have HS3 := Lib.hid (HS2.out.below hA)
    have HK3 := Lib.hid (HK2.out.trans (Keeps.of_below hA))
    have PL3 : Hid (PlW w.heap.size Q w2.heap.size (w2.heap.size + 1) 0 (.slice none 0 0) (.slice (some ⟨hg, 0, none⟩) 2 hc) hrs [] ((w2.alloc (.cells #[.slice none 0 0, .slice (some ⟨hg, 0, none⟩) 2 hc] 29)).alloc (.cells #[.string ⟨#[99, 97]⟩, .string ⟨#[99, 98]⟩, .string ⟨#[99, 99]⟩] 9))) := ⟨Q2.out.below hA, P3.out, KB3.out, ⟨own_more HH2.out.own hA, fun x hx => (HH2.out.each x hx).below hA, HH2.out.two, HH2.out.keys⟩, World.ownsRow_nil _ _ _ _, rfl, fun i hi => by omega⟩
    have hPK : w2.heap.size ≠ Q ∧ w2.heap.size ≠ w2.heap.size + 1 := ⟨by omega, by omega⟩
    clear hA HS2 HK2 Q2 HH2 P3 KB3
    as_aux_lemma =>
      go_upto_region 3 with ((refine wpList_val rfl (bl_drp6 _ (fun _ => rfl) _ _  ⟨#[99, 97]⟩ ⟨#[99, 98]⟩ ⟨#[99, 99]⟩ rfl) ?_))
      generalize ((w2.alloc (.cells #[.slice none 0 0, .slice (some ⟨hg, 0, none⟩) 2 hc] 29)).alloc (.cells #[.string ⟨#[99, 97]⟩, .string ⟨#[99, 98]⟩, .string ⟨#[99, 99]⟩] 9)) = w3 at HS3 HK3 PL3 ⊢
      obtain ⟨KB, hKB⟩ : ∃ x, x = w2.heap.size + 1 := ⟨_, rfl⟩
      obtain ⟨P, hP⟩ : ∃ x, x = w2.heap.size := ⟨_, rfl⟩
      rw [← hKB] at PL3 hPK
      rw [← hP] at PL3 hPK
      simp only [← hKB]
      simp only [← hP]
      have hns : Q ≠ S ∧ P ≠ S ∧ KB ≠ S := ⟨by omega, by omega, by omega⟩
      have hbP : w.heap.size ≤ P := by omega
      clear hKB hP
      go_loopw [15] (fun it wr => ∃ q : Nat, q ≤ 3 ∧ it = .int .i64 q ∧ ∃ va ctxs, Hid (PlW w.heap.size Q P KB q va (.slice (some ⟨hg, 0, none⟩) 2 hc) hrs ctxs wr) ∧ Hid (StreamOk wr S (k + 40 + 100 * q)) ∧ Hid (Keeps S w wr)) (fun it _ => 3 - (intOf it).toNat)
      case atStart => exact ⟨0, by omega, rfl, _, _, PL3, HS3, HK3⟩
      case round =>
        obtain ⟨q, hq, rfl, va, ctxs, PLq, HSq, HKq⟩ := hrel
        clear PL3 HS3 HK3
        obtain ⟨w0, rfl⟩ : ∃ x : World, x = wr := ⟨_, rfl⟩
        by_cases hlq : q < 3
        case neg =>
          obtain rfl : q = 3 := by omega
          obtain ⟨g, c9, rfl, hgw⟩ : ∃ g c, va = .slice (some ⟨g, 0, none⟩) 3 c ∧ w.heap.size ≤ g := by
            rcases shape_own PLq.out.cx with ⟨h0, _⟩ | ⟨g, c, e, h1, _⟩
            · cases h0
            · exact ⟨g, c, e, h1⟩
          have hgl : g < w0.heap.size := by
            rcases shape_own PLq.out.cx with ⟨h0, _⟩ | ⟨g, c, e, _, h1⟩
            · cases h0
            · injection e with e; injection e with e; injection e with e; rw [e]; exact h1
          have G0 : Hid (PlG S w.heap.size Q P g c9 [.slice none 0 0, .slice none 0 0] (.slice (some ⟨hg, 0, none⟩) 2 hc) hrs ctxs w0) := ⟨PLq.out.q_, PLq.out.p_, PLq.out.hh, PLq.out.cx, PLq.out.len, fun i hi => by
            obtain ⟨e1, e2, e3, e4, e5, e6, e7⟩ := PLq.out.each i hi
            refine ⟨e1, e2, e3, ⟨(by rw [e7]; intro j hj; cases hj), (by rw [e7]; exact List.nodup_nil), (by rw [e7]; decide), (by rw [e5, e6]; exact Nat.le_refl _), ?_, (by rw [e4]; intro b o e; cases e)⟩⟩
            rw [e4, e5, e7]
            exact ⟨rfl, Or.inl rfl⟩⟩
          have hqn : ¬ ((3 : Nat) : Int) < 3 := by decide
          have hSb : S < w.heap.size := hSw
          have hPl : P < w0.heap.size := PLq.out.p_.lt
          have hSl : S < w0.heap.size := by omega
          have p0 := G0.out.p_.cell 0 rfl
          clear PLq hlq hq
          have HSx := HSq
          have HKx := HKq
          have Gx := G0
          clear HSq HKq G0
          as_aux_lemma =>
            go_upto_region 14 with (fail)
            go_cut [5] (fun v5 wx => v5 = .pointer (some ⟨P, 0, none⟩) ∧ ∃ ctxs2, Hid (PlG S w.heap.size Q P g c9 [.slice none 0 0, .slice none 0 0] (.slice (some ⟨hg, 0, none⟩) 2 hc) hrs ctxs2 wx) ∧ Hid (StreamOk wx S (k + 40 + 100 * 3 + 1)) ∧ Hid (Keeps S w wx))
            case first =>
              refine region_all S (k + 40 + 100 * 3) 1 10 0 [.val (fun v => (.pointer (some ⟨P, 0, none⟩)) = v), .val (fun v => (.slice (some ⟨g, 0, none⟩) 3 c9) = v), .mem (fun W v => IncU S g 0 W v), .mem (fun W v => IncU S g 0 W v), .mem (fun W v => IncU S g 0 W v), .mem (fun W v => TabU S g 0 4 W v), .val (fun v => (.pointer (some ⟨S, 0, none⟩)) = v), .val (fun v => ∃ z : Nat, z < 4 ∧ .int .i64 (z : Int) = v), .mem (fun W v => PtrU S g 0 W v), .mem (fun W v => IncU S g 0 W v)] [7] [some 47, some 48, some 49, some 50, some 51, some 52, some 53, some 54, some 55, some 56] (by kernel_rfl) (by kernel_rfl) (by kernel_rfl) (by kernel_rfl) (by kernel_rfl) (by kernel_rfl) rfl (by kernel_rfl) rfl rfl (by kernel_rfl) HSx.out ⟨?_, ?_, ?_, ?_, ?_, ?_, ?_, ?_, ?_, ?_, trivial⟩ ?_
              · intro a w' c hk hst hc hfr hdp K hK
                as_aux_lemma =>
                  have E5 : a.eval (.tmp 5) = .pointer (some ⟨P, 0, none⟩) := fr_list hfr 5 (by kernel_rfl)
                  have d5_ := slot_of E5
                  refine gen_pure (v := .pointer (some ⟨P, 0, none⟩)) ?_ (hK _ _ rfl (Keeps.refl _ _) hst)
                  clear hK hdp hfr
                  go_simp
              · intro a w' c hk hst hc hfr hdp K hK
                as_aux_lemma =>
                  have E47 : a.eval (.tmp 47) = .pointer (some ⟨P, 0, none⟩) := Eq.symm (hdp 0 47 _ (by kernel_rfl) (by kernel_rfl) rfl)
                  have d47_ := slot_of E47
                  have e0 := (hk.cell (p := ⟨P, 0, none⟩) hPl hns.2.1).trans p0
                  refine gen_pure (v := .slice (some ⟨g, 0, none⟩) 3 c9) ?_ (hK _ _ rfl (Keeps.refl _ _) hst)
                  clear hK hdp hfr
                  go_simp
              · intro a w' c hk hst hc hfr hdp K hK
                as_aux_lemma =>
                  have hS9 : S < w'.heap.size := Nat.lt_of_lt_of_le hSl hk.size
                  have hg9 : g < w'.heap.size := Nat.lt_of_lt_of_le hgl hk.size
                  refine wp_valR (v := .slice (some ⟨w'.heap.size, 0, none⟩) 1 1) (w2 := w'.alloc (.cells #[.string ⟨#[99, 98]⟩] 9)) ?_ (hK _ _ ?_ (Keeps.of_below (ext_alloc (Below.refl _ _))) (hst.below (ext_alloc (Below.refl _ _))))
                  · clear hK hdp hfr; exact (bl_drp2 _ (fun _ => rfl) _ _  ⟨#[99, 98]⟩ rfl)
                  · intro w9 h9
                    exact (incU_one S g 0 w' 1 [99, 98] key1 ⟨by decide, by decide⟩ hS9 hg9).keeps h9
              · intro a w' c hk hst hc hfr hdp K hK
                as_aux_lemma =>
                  have hS9 : S < w'.heap.size := Nat.lt_of_lt_of_le hSl hk.size
                  have hg9 : g < w'.heap.size := Nat.lt_of_lt_of_le hgl hk.size
                  refine wp_valR (v := .slice (some ⟨w'.heap.size, 0, none⟩) 2 2) (w2 := w'.alloc (.cells #[.string ⟨#[99, 99]⟩, .string ⟨#[99, 98]⟩] 9)) ?_ (hK _ _ ?_ (Keeps.of_below (ext_alloc (Below.refl _ _))) (hst.below (ext_alloc (Below.refl _ _))))
                  · clear hK hdp hfr; exact (bl_drp3 _ (fun _ => rfl) _ _  ⟨#[99, 99]⟩ ⟨#[99, 98]⟩ rfl)
                  · intro w9 h9
                    exact (incU_two S g 0 w' 2 1 [99, 99] [99, 98] key2 key1 ⟨by decide, by decide⟩ ⟨by decide, by decide⟩ (by decide) hS9 hg9).keeps h9
              · intro a w' c hk hst hc hfr hdp K hK
                as_aux_lemma =>
                  have hS9 : S < w'.heap.size := Nat.lt_of_lt_of_le hSl hk.size
                  have hg9 : g < w'.heap.size := Nat.lt_of_lt_of_le hgl hk.size
                  refine wp_valR (v := .slice (some ⟨w'.heap.size, 0, none⟩) 2 2) (w2 := w'.alloc (.cells #[.string ⟨#[99, 98]⟩, .string ⟨#[99, 99]⟩] 9)) ?_ (hK _ _ ?_ (Keeps.of_below (ext_alloc (Below.refl _ _))) (hst.below (ext_alloc (Below.refl _ _))))
                  · clear hK hdp hfr; exact (bl_drp3 _ (fun _ => rfl) _ _  ⟨#[99, 98]⟩ ⟨#[99, 99]⟩ rfl)
                  · intro w9 h9
                    exact (incU_two S g 0 w' 1 2 [99, 98] [99, 99] key1 key2 ⟨by decide, by decide⟩ ⟨by decide, by decide⟩ (by decide) hS9 hg9).keeps h9
              · intro a w' c hk hst hc hfr hdp K hK
                as_aux_lemma =>
                  have i0 : IncU S g 0 w' (a.eval (.tmp 49)) := hdp 2 49 _ (by kernel_rfl) (by kernel_rfl) rfl w' (Keeps.refl _ _)
                  obtain ⟨a0, n0, l0, e0, r0⟩ := i0.is_
                  have d49_ := slot_of e0
                  have i1 : IncU S g 0 w' (a.eval (.tmp 50)) := hdp 3 50 _ (by kernel_rfl) (by kernel_rfl) rfl w' (Keeps.refl _ _)
                  obtain ⟨a1, n1, l1, e1, r1⟩ := i1.is_
                  have d50_ := slot_of e1
                  have i2 : IncU S g 0 w' (a.eval (.tmp 51)) := hdp 4 51 _ (by kernel_rfl) (by kernel_rfl) rfl w' (Keeps.refl _ _)
                  obtain ⟨a2, n2, l2, e2, r2⟩ := i2.is_
                  have d51_ := slot_of e2
                  have j0 : IncU S g 0 w' (.slice a0 n0 n0) := by rw [← e0]; exact i0
                  have j1 : IncU S g 0 w' (.slice a1 n1 n1) := by rw [← e1]; exact i1
                  have j2 : IncU S g 0 w' (.slice a2 n2 n2) := by rw [← e2]; exact i2
                  have hS9 : S < w'.heap.size := Nat.lt_of_lt_of_le hSl hk.size
                  refine wp_valR (v := .slice (some ⟨w'.heap.size, 0, none⟩) 4 4) (w2 := w'.alloc (.cells #[.slice none 0 0, .slice a0 n0 n0, .slice a1 n1 n1, .slice a2 n2 n2] 56)) ?_ (hK _ _ ?_ (Keeps.of_below (ext_alloc (Below.refl _ _))) (hst.below (ext_alloc (Below.refl _ _))))
                  · clear hK hdp hfr; exact (bl_drp4 _ (fun _ => rfl) _ _ 49 50 51 none 0 0 a0 n0 n0 a1 n1 n1 a2 n2 n2 rfl e0 e1 e2)
                  · intro w9 h9
                    have hB := Blk.new w' [.slice none 0 0, .slice a0 n0 n0, .slice a1 n1 n1, .slice a2 n2 n2] 56
                    have kA : Keeps S w' (w'.alloc (.cells #[.slice none 0 0, .slice a0 n0 n0, .slice a1 n1 n1, .slice a2 n2 n2] 56)) := Keeps.of_below (ext_alloc (Below.refl _ _))
                    have hT : TabU S g 0 4 (w'.alloc (.cells #[.slice none 0 0, .slice a0 n0 n0, .slice a1 n1 n1, .slice a2 n2 n2] 56)) (.slice (some ⟨w'.heap.size, 0, none⟩) 4 4) := ⟨w'.heap.size, rfl, by omega, hB.lt, fun z hz => by
                      match z, hz with
                      | 0, _ => exact ⟨_, hB.cell 0 rfl, incU_nil S g 0 _⟩
                      | 1, _ => exact ⟨_, hB.cell 1 rfl, j0.keeps kA⟩
                      | 2, _ => exact ⟨_, hB.cell 2 rfl, j1.keeps kA⟩
                      | 3, _ => exact ⟨_, hB.cell 3 rfl, j2.keeps kA⟩⟩
                    exact hT.keeps h9
              · intro a w' c hk hst hc hfr hdp K hK
                as_aux_lemma =>
                  have E3 : a.eval (.tmp 0) = .pointer (some ⟨S, 0, none⟩) := fr_list hfr 0 (by kernel_rfl)
                  have d0_ := slot_of E3
                  refine gen_pure (v := .pointer (some ⟨S, 0, none⟩)) ?_ (hK _ _ rfl (Keeps.refl _ _) hst)
                  clear hK hdp hfr
                  go_simp
              · intro a w' c hk hst hc hfr hdp K hK
                as_aux_lemma =>
                  have E53 : a.eval (.tmp 53) = .pointer (some ⟨S, 0, none⟩) := Eq.symm (hdp 6 53 _ (by kernel_rfl) (by kernel_rfl) rfl)
                  have d53_ := slot_of E53
                  have hc2 : c + 1 ≤ 1 := hc
                  refine gen_call 30 #[.pointer (some ⟨S, 0, none⟩), .int .i64 4] ?_ (next_any S _ 4 w' hst (by omega) (by omega) (by omega)) ?_
                  · clear hK hdp hfr; go_simp
                  rintro e w'' ⟨r, rfl, h1, h2, hst2, hkp⟩
                  obtain ⟨z, rfl⟩ := Int.eq_ofNat_of_zero_le h1
                  exact ⟨_, rfl, hK _ _ ⟨z, by omega, rfl⟩ hkp (hst2.mono (by simp; omega))⟩
              · intro a w' c hk hst hc hfr hdp K hK
                as_aux_lemma =>
                  have hT : TabU S g 0 4 w' (a.eval (.tmp 52)) := hdp 5 52 _ (by kernel_rfl) (by kernel_rfl) rfl w' (Keeps.refl _ _)
                  obtain ⟨B, eB, hB1, hB2, hB3⟩ := hT.is_
                  have d52_ := slot_of eB
                  obtain ⟨z, hz, ez⟩ := hdp 7 54 _ (by kernel_rfl) (by kernel_rfl) rfl
                  have Ez := Eq.symm ez
                  have d54_ := slot_of Ez
                  have hz0 : ¬ ((z : Int) < 0) := by omega
                  have hzm : (z : Int) < 4 := by omega
                  obtain ⟨u, hu, hiu⟩ := hB3 z hz
                  clear ez eB Ez hT
                  refine gen_pure (v := .pointer (some ⟨B, z, none⟩)) ?_ (hK _ _ (fun w9 h9 => PtrU.keeps ⟨B, z, u, rfl, hB1, hB2, hu, hiu⟩ h9) (Keeps.refl _ _) hst)
                  clear hK hdp hfr hB3 hiu
                  go_simp
              · intro a w' c hk hst hc hfr hdp K hK
                as_aux_lemma =>
                  have hT : PtrU S g 0 w' (a.eval (.tmp 55)) := hdp 8 55 _ (by kernel_rfl) (by kernel_rfl) rfl w' (Keeps.refl _ _)
                  obtain ⟨B, z, u, eB, hB1, hB2, hu, hiu⟩ := hT.is_
                  have d55_ := slot_of eB
                  clear eB hT
                  have hiu2 := hiu.is_
                  obtain ⟨ua, un, ui, rfl, _⟩ := hiu2
                  refine gen_pure (v := .slice ua un un) ?_ (hK _ _ (fun w9 h9 => hiu.keeps h9) (Keeps.refl _ _) hst)
                  clear hK hdp hfr hiu
                  go_simp
              intro w9 hk9 hst9
              rintro _ rfl _ rfl _ - _ - _ - _ - _ rfl _ ⟨z, hz, rfl⟩ _ - _ h9
              have hiu := h9 w9 (Keeps.refl _ _)
              obtain ⟨ia, inn, incs, rfl, q1, q2, q3, q4, q5⟩ := hiu.is_
              simp only [ForVals, Act.put, List.setIfInBounds_toArray, List.set_cons_zero, List.set_cons_succ, List.drop_succ_cons, List.drop_zero]
              have kd : Keeps S w0 w9 := Keeps.trans (by exact Keeps.of_below (ext_drew (Below.refl _ _))) hk9
              have G9 := Lib.hid (Gx.out.keeps kd hSb ⟨hns.1, hns.2.1⟩)
              have G10 := Lib.hid (G9.out.put 0 (by decide) ia inn inn incs ⟨q1, q2, q3, Nat.le_refl _, q4, q5⟩)
              obtain ⟨u, hu⟩ : ∃ u, w9.cell? ⟨g, 2, none⟩ = some u := by
                have e := G9.out.cx.cellAt 2 (by decide)
                have hl : ((ctxs.map DCtx.cells).flatten).length = 9 := G9.out.cx.1
                exact ⟨_, e.trans (List.getElem?_eq_getElem (by omega))⟩
              have hfz : w9.frozen? ⟨g, 2, none⟩ = false := G9.out.cx.frozenAt 2
              have HK9 := Lib.hid (HKx.out.trans kd)
              have HK10 : Hid (Keeps S w (w9.setCell ⟨g, 2, none⟩ (.slice ia inn inn))) := HK9.out.setCell_new (p := ⟨g, 2, none⟩) hgw _
              have HS10 : Hid (StreamOk (w9.setCell ⟨g, 2, none⟩ (.slice ia inn inn)) S (k + 40 + 100 * 3 + 1)) := (hst9.mono (by simp)).upto ((Below.refl (S + 1) w9).setCell (p := ⟨g, 2, none⟩) (by show S + 1 ≤ g; omega) _)
              clear kd hk9 hst9 h9 hiu q1 q2 q3 q4 q5 G9 HK9 Gx HKx HSx p0
              go_wp2_with fail
              go_meet
              exact ⟨rfl, _, G10, HS10, HK10⟩
            case rest =>
              obtain ⟨rfl, ctxs2, G1, HS1, HK1⟩ := hcut
              clear Gx HSx HKx p0 hgl hPl hSl
              obtain ⟨w1, rfl⟩ : ∃ x : World, x = wc := ⟨_, rfl⟩
              have hPl : P < w1.heap.size := G1.out.p_.lt
              have hSl : S < w1.heap.size := HS1.out.lt
              have hgl : g < w1.heap.size := by
                rcases shape_own G1.out.cx with ⟨h0, _⟩ | ⟨g, c, e, _, h1⟩
                · cases h0
                · injection e with e; injection e with e; injection e with e; rw [e]; exact h1
              have p0 := G1.out.p_.cell 0 rfl
              have HSx := HS1
              have HKx := HK1
              have Gx := G1
              clear HS1 HK1 G1
              as_aux_lemma =>
                go_upto_region 15 with (fail)
                go_cut [5] (fun v5 wx => v5 = .pointer (some ⟨P, 0, none⟩) ∧ ∃ ctxs3, Hid (PlG S w.heap.size Q P g c9 [.slice none 0 0, .slice none 0 0] (.slice (some ⟨hg, 0, none⟩) 2 hc) hrs ctxs3 wx) ∧ Hid (StreamOk wx S (k + 40 + 100 * 3 + 1 + 1)) ∧ Hid (Keeps S w wx))
                case first =>
                  refine region_all S (k + 40 + 100 * 3 + 1) 1 8 0 [.val (fun v => (.pointer (some ⟨P, 0, none⟩)) = v), .val (fun v => (.slice (some ⟨g, 0, none⟩) 3 c9) = v), .mem (fun W v => IncU S g 1 W v), .mem (fun W v => TabU S g 1 2 W v), .val (fun v => (.pointer (some ⟨S, 0, none⟩)) = v), .val (fun v => ∃ z : Nat, z < 2 ∧ .int .i64 (z : Int) = v), .mem (fun W v => PtrU S g 1 W v), .mem (fun W v => IncU S g 1 W v)] [5] [some 59, some 60, some 61, some 62, some 63, some 64, some 65, some 66] (by kernel_rfl) (by kernel_rfl) (by kernel_rfl) (by kernel_rfl) (by kernel_rfl) (by kernel_rfl) rfl (by kernel_rfl) rfl rfl (by kernel_rfl) HSx.out ⟨?_, ?_, ?_, ?_, ?_, ?_, ?_, ?_, trivial⟩ ?_
                  · intro a w' c hk hst hc hfr hdp K hK
                    as_aux_lemma =>
                      have E5 : a.eval (.tmp 5) = .pointer (some ⟨P, 0, none⟩) := fr_list hfr 5 (by kernel_rfl)
                      have d5_ := slot_of E5
                      refine gen_pure (v := .pointer (some ⟨P, 0, none⟩)) ?_ (hK _ _ rfl (Keeps.refl _ _) hst)
                      clear hK hdp hfr
                      go_simp
                  · intro a w' c hk hst hc hfr hdp K hK
                    as_aux_lemma =>
                      have E59 : a.eval (.tmp 59) = .pointer (some ⟨P, 0, none⟩) := Eq.symm (hdp 0 59 _ (by kernel_rfl) (by kernel_rfl) rfl)
                      have d59_ := slot_of E59
                      have e0 := (hk.cell (p := ⟨P, 0, none⟩) hPl hns.2.1).trans p0
                      refine gen_pure (v := .slice (some ⟨g, 0, none⟩) 3 c9) ?_ (hK _ _ rfl (Keeps.refl _ _) hst)
                      clear hK hdp hfr
                      go_simp
                  · intro a w' c hk hst hc hfr hdp K hK
                    as_aux_lemma =>
                      have hS9 : S < w'.heap.size := Nat.lt_of_lt_of_le hSl hk.size
                      have hg9 : g < w'.heap.size := Nat.lt_of_lt_of_le hgl hk.size
                      refine wp_valR (v := .slice (some ⟨w'.heap.size, 0, none⟩) 1 1) (w2 := w'.alloc (.cells #[.string ⟨#[99, 99]⟩] 9)) ?_ (hK _ _ ?_ (Keeps.of_below (ext_alloc (Below.refl _ _))) (hst.below (ext_alloc (Below.refl _ _))))
                      · clear hK hdp hfr; exact (bl_drp2 _ (fun _ => rfl) _ _  ⟨#[99, 99]⟩ rfl)
                      · intro w9 h9
                        exact (incU_one S g 1 w' 2 [99, 99] key2 ⟨by decide, by decide⟩ hS9 hg9).keeps h9
                  · intro a w' c hk hst hc hfr hdp K hK
                    as_aux_lemma =>
                      have i0 : IncU S g 1 w' (a.eval (.tmp 61)) := hdp 2 61 _ (by kernel_rfl) (by kernel_rfl) rfl w' (Keeps.refl _ _)
                      obtain ⟨a0, n0, l0, e0, r0⟩ := i0.is_
                      have d61_ := slot_of e0
                      have j0 : IncU S g 1 w' (.slice a0 n0 n0) := by rw [← e0]; exact i0
                      have hS9 : S < w'.heap.size := Nat.lt_of_lt_of_le hSl hk.size
                      refine wp_valR (v := .slice (some ⟨w'.heap.size, 0, none⟩) 2 2) (w2 := w'.alloc (.cells #[.slice none 0 0, .slice a0 n0 n0] 56)) ?_ (hK _ _ ?_ (Keeps.of_below (ext_alloc (Below.refl _ _))) (hst.below (ext_alloc (Below.refl _ _))))
                      · clear hK hdp hfr; exact (bl_drp5 _ (fun _ => rfl) _ _ 61 none 0 0 a0 n0 n0 rfl e0)
                      · intro w9 h9
                        have hB := Blk.new w' [.slice none 0 0, .slice a0 n0 n0] 56
                        have kA : Keeps S w' (w'.alloc (.cells #[.slice none 0 0, .slice a0 n0 n0] 56)) := Keeps.of_below (ext_alloc (Below.refl _ _))
                        have hT : TabU S g 1 2 (w'.alloc (.cells #[.slice none 0 0, .slice a0 n0 n0] 56)) (.slice (some ⟨w'.heap.size, 0, none⟩) 2 2) := ⟨w'.heap.size, rfl, by omega, hB.lt, fun z hz => by
                          match z, hz with
                          | 0, _ => exact ⟨_, hB.cell 0 rfl, incU_nil S g 1 _⟩
                          | 1, _ => exact ⟨_, hB.cell 1 rfl, j0.keeps kA⟩⟩
                        exact hT.keeps h9
                  · intro a w' c hk hst hc hfr hdp K hK
                    as_aux_lemma =>
                      have E3 : a.eval (.tmp 0) = .pointer (some ⟨S, 0, none⟩) := fr_list hfr 0 (by kernel_rfl)
                      have d0_ := slot_of E3
                      refine gen_pure (v := .pointer (some ⟨S, 0, none⟩)) ?_ (hK _ _ rfl (Keeps.refl _ _) hst)
                      clear hK hdp hfr
                      go_simp
                  · intro a w' c hk hst hc hfr hdp K hK
                    as_aux_lemma =>
                      have E63 : a.eval (.tmp 63) = .pointer (some ⟨S, 0, none⟩) := Eq.symm (hdp 4 63 _ (by kernel_rfl) (by kernel_rfl) rfl)
                      have d63_ := slot_of E63
                      have hc2 : c + 1 ≤ 1 := hc
                      refine gen_call 30 #[.pointer (some ⟨S, 0, none⟩), .int .i64 2] ?_ (next_any S _ 2 w' hst (by omega) (by omega) (by omega)) ?_
                      · clear hK hdp hfr; go_simp
                      rintro e w'' ⟨r, rfl, h1, h2, hst2, hkp⟩
                      obtain ⟨z, rfl⟩ := Int.eq_ofNat_of_zero_le h1
                      exact ⟨_, rfl, hK _ _ ⟨z, by omega, rfl⟩ hkp (hst2.mono (by simp; omega))⟩
                  · intro a w' c hk hst hc hfr hdp K hK
                    as_aux_lemma =>
                      have hT : TabU S g 1 2 w' (a.eval (.tmp 62)) := hdp 3 62 _ (by kernel_rfl) (by kernel_rfl) rfl w' (Keeps.refl _ _)
                      obtain ⟨B, eB, hB1, hB2, hB3⟩ := hT.is_
                      have d62_ := slot_of eB
                      obtain ⟨z, hz, ez⟩ := hdp 5 64 _ (by kernel_rfl) (by kernel_rfl) rfl
                      have Ez := Eq.symm ez
                      have d64_ := slot_of Ez
                      have hz0 : ¬ ((z : Int) < 0) := by omega
                      have hzm : (z : Int) < 2 := by omega
                      obtain ⟨u, hu, hiu⟩ := hB3 z hz
                      clear ez eB Ez hT
                      refine gen_pure (v := .pointer (some ⟨B, z, none⟩)) ?_ (hK _ _ (fun w9 h9 => PtrU.keeps ⟨B, z, u, rfl, hB1, hB2, hu, hiu⟩ h9) (Keeps.refl _ _) hst)
                      clear hK hdp hfr hB3 hiu
                      go_simp
                  · intro a w' c hk hst hc hfr hdp K hK
                    as_aux_lemma =>
                      have hT : PtrU S g 1 w' (a.eval (.tmp 65)) := hdp 6 65 _ (by kernel_rfl) (by kernel_rfl) rfl w' (Keeps.refl _ _)
                      obtain ⟨B, z, u, eB, hB1, hB2, hu, hiu⟩ := hT.is_
                      have d65_ := slot_of eB
                      clear eB hT
                      have hiu2 := hiu.is_
                      obtain ⟨ua, un, ui, rfl, _⟩ := hiu2
                      refine gen_pure (v := .slice ua un un) ?_ (hK _ _ (fun w9 h9 => hiu.keeps h9) (Keeps.refl _ _) hst)
                      clear hK hdp hfr hiu
                      go_simp
                  intro w9 hk9 hst9
                  rintro _ rfl _ rfl _ - _ - _ rfl _ ⟨z, hz, rfl⟩ _ - _ h9
                  have hiu := h9 w9 (Keeps.refl _ _)
                  obtain ⟨ia, inn, incs, rfl, q1, q2, q3, q4, q5⟩ := hiu.is_
                  simp only [ForVals, Act.put, List.setIfInBounds_toArray, List.set_cons_zero, List.set_cons_succ, List.drop_succ_cons, List.drop_zero]
                  have kd : Keeps S w1 w9 := Keeps.trans (by exact Keeps.of_below (ext_drew (Below.refl _ _))) hk9
                  have G9 := Lib.hid (Gx.out.keeps kd hSb ⟨hns.1, hns.2.1⟩)
                  have G10 := Lib.hid (G9.out.put 1 (by decide) ia inn inn incs ⟨q1, q2, q3, Nat.le_refl _, q4, q5⟩)
                  obtain ⟨u, hu⟩ : ∃ u, w9.cell? ⟨g, 5, none⟩ = some u := by
                    have e := G9.out.cx.cellAt 5 (by decide)
                    have hl : ((ctxs2.map DCtx.cells).flatten).length = 9 := G9.out.cx.1
                    exact ⟨_, e.trans (List.getElem?_eq_getElem (by omega))⟩
                  have hfz : w9.frozen? ⟨g, 5, none⟩ = false := G9.out.cx.frozenAt 5
                  have HK9 := Lib.hid (HKx.out.trans kd)
                  have HK10 : Hid (Keeps S w (w9.setCell ⟨g, 5, none⟩ (.slice ia inn inn))) := HK9.out.setCell_new (p := ⟨g, 5, none⟩) hgw _
                  have HS10 : Hid (StreamOk (w9.setCell ⟨g, 5, none⟩ (.slice ia inn inn)) S (k + 40 + 100 * 3 + 1 + 1)) := (hst9.mono (by simp)).upto ((Below.refl (S + 1) w9).setCell (p := ⟨g, 5, none⟩) (by show S + 1 ≤ g; omega) _)
                  clear kd hk9 hst9 h9 hiu q1 q2 q3 q4 q5 G9 HK9 Gx HKx HSx p0
                  go_wp2_with fail
                  go_meet
                  exact ⟨rfl, _, G10, HS10, HK10⟩
                case rest =>
                  obtain ⟨rfl, ctxs3, G2, HS2, HK2⟩ := hcut
                  obtain ⟨w3, rfl⟩ : ∃ x : World, x = wc := ⟨_, rfl⟩
                  have HF : Hid (DplPost S (k + 400) w (.returned (.agg #[.slice (some ⟨g, 0, none⟩) 3 c9, .slice (some ⟨hg, 0, none⟩) 2 hc])) (w3.setCells Q 0 [.slice (some ⟨g, 0, none⟩) 3 c9, .slice (some ⟨hg, 0, none⟩) 2 hc])) :=
                    ⟨⟨some ⟨g, 0, none⟩, 3, c9, ctxs3, some ⟨hg, 0, none⟩, 2, hc, hrs⟩, rfl, fun W hW => ((G2.out.last hPK.1 _ _).keeps hW hSb ⟨hns.1, hns.2.1⟩).fine, (HS2.out.upto (below_setCellsD (by omega) _ _ _)).mono (by omega), keeps_cellsD hbQ _ _ _ HK2.out⟩
                  have HTQ : Hid (w3.there Q 0 2) := G2.out.q_.th 2 (Nat.le_refl 2)
                  have p0 := G2.out.p_.cell 0 rfl
                  have p1 := G2.out.p_.cell 1 rfl
                  have QA : Hid (Blk (w3.setCells Q 0 [.slice (some ⟨g, 0, none⟩) 3 c9, .slice (some ⟨hg, 0, none⟩) 2 hc]) Q [.slice (some ⟨g, 0, none⟩) 3 c9, .slice (some ⟨hg, 0, none⟩) 2 hc] 29) := (G2.out.q_.put 0 _).put 1 _
                  clear G2 HS2 HK2
                  as_aux_lemma =>
                    go_wp2_with (refine wpList_store_mid rfl 29 (.tmp 4) (.tmp 69) rfl Q 0 #[.slice (some ⟨g, 0, none⟩) 3 c9, .slice (some ⟨hg, 0, none⟩) 2 hc] rfl rfl HTQ.out Tryz.dplanSz (by simp [Value.oneCell']) ?_; generalize w3.setCells Q 0 _ = W9 at QA HF ⊢)
                    refine bodyPost_ret (v := .agg #[.slice (some ⟨g, 0, none⟩) 3 c9, .slice (some ⟨hg, 0, none⟩) 2 hc]) ?_ rfl HF.out
                    exact results_cell1 (t := 4) (by rfl) _ _ _ Tryz.isAgg29 Tryz.sizeOf29 (by rfl) [.slice (some ⟨g, 0, none⟩) 3 c9, .slice (some ⟨hg, 0, none⟩) 2 hc] rfl (fun j v hj => QA.out.cell j hj)
        have hql : (q : Int) < 3 := by omega
        have hq0 : ¬ ((q : Int) < 0) := by omega
        have kq : w0.cell? ⟨KB, q, none⟩ = some (.string ⟨(ctxKey q).toArray⟩) := by
          match q, hlq with
          | 0, _ => rw [show ctxKey 0 = [99, 97] by decide]; exact PLq.out.kb.cell 0 rfl
          | 1, _ => rw [show ctxKey 1 = [99, 98] by decide]; exact PLq.out.kb.cell 1 rfl
          | 2, _ => rw [show ctxKey 2 = [99, 99] by decide]; exact PLq.out.kb.cell 2 rfl
        have hw0 : w.heap.size ≤ w0.heap.size := HKq.out.size
        obtain ⟨kk, hkk⟩ : ∃ x, x = ctxKey q := ⟨_, rfl⟩
        rw [← hkk] at kq
        have HKK := Lib.hid hkk
        clear hkk
        have hA : Below w0.heap.size w0 (w0.alloc (.cells #[.string ⟨kk.toArray⟩, .slice none 0 0, .slice none 0 0] 58)) := ext_alloc (Below.refl _ _)
        have C1 : Hid (Blk (w0.alloc (.cells #[.string ⟨kk.toArray⟩, .slice none 0 0, .slice none 0 0] 58)) w0.heap.size [.string ⟨kk.toArray⟩, .slice none 0 0, .slice none 0 0] 58) := Blk.new _ _ _
        have HS1 := Lib.hid (HSq.out.below hA)
        have HK1 : Hid (Keeps S w0 (w0.alloc (.cells #[.string ⟨kk.toArray⟩, .slice none 0 0, .slice none 0 0] 58))) := Keeps.of_below hA
        clear hA
        as_aux_lemma =>
          go_upto_region 6 with (fail)
          generalize w0.alloc (.cells #[.string ⟨kk.toArray⟩, .slice none 0 0, .slice none 0 0] 58) = w4 at C1 HS1 HK1 ⊢
          obtain ⟨C, hC⟩ : ∃ x, x = w0.heap.size := ⟨_, rfl⟩
          rw [← hC] at C1
          simp only [← hC]
          have hCS : C ≠ S := by omega
          have hC0 : w0.heap.size ≤ C := by omega
          have hSC : S + 1 ≤ C := by omega
          clear hC kq
          go_wp2_with fail
          refine (range_any S (k + 40 + 100 * q) 0 (most : Int) _ HS1.out (by omega) (by omega) (by omega) (by omega)).mono ?_
          rintro e w5 ⟨mz, rfl, hm0, hm1, hst, hk'⟩
          obtain ⟨m, rfl⟩ := Int.eq_ofNat_of_zero_le hm0
          have hm4 : m ≤ 4 := by omega
          have HS5 := Lib.hid hst
          have HK5 := Lib.hid (HK1.out.trans hk')
          have C5 := Lib.hid (C1.out.keeps hk' hCS)
          clear hst hk' HS1 HK1 C1 hm0 hm1
          as_aux_lemma =>
            go_wp2_with fail
            go_loopw [24] (fun it wr => ∃ j : Nat, j ≤ m ∧ it = .int .i64 j ∧ ∃ v l, l.length ≤ j ∧ Hid (RulesAt wr w0.heap.size v l) ∧ Hid (Blk wr C [.string ⟨kk.toArray⟩, v, .slice none 0 0] 58) ∧ Hid (StreamOk wr S (k + 40 + 100 * q + 1 + 11 * j)) ∧ Hid (Keeps S w0 wr)) (fun it _ => m - (intOf it).toNat)
            case atStart => exact ⟨0, Nat.zero_le _, rfl, _, _, Nat.le_refl _, rules_nil _ _, C5, HS5, HK5⟩
            case round =>
              obtain ⟨j, hj, rfl, v, l, hlj, RA, CB, HSj, HKj⟩ := hrel
              clear C5 HS5 HK5
              obtain ⟨va2, vc2, rfl⟩ : ∃ a c, v = .slice a l.length c := by
                rcases shape_own RA.out.own with ⟨h0, rfl⟩ | ⟨g, c, rfl, _⟩
                · exact ⟨none, 0, by rw [h0]⟩
                · exact ⟨_, _, rfl⟩
              have hSw0 : S < w0.heap.size := by omega
              by_cases hjm : j < m
              case neg =>
                have hjn : ¬ (j : Int) < (m : Int) := by omega
                have PLE := Lib.hid (PLq.out.keeps HKj.out hSw hns)
                have hwr : w0.heap.size ≤ wr.heap.size := HKj.out.size
                have p0 := PLE.out.p_.cell 0 rfl
                have f0 := PLE.out.p_.fr 0
                have c0 := CB.out.cell 0 rfl
                have c1 := CB.out.cell 1 rfl
                have c2 := CB.out.cell 2 rfl
                have hA : Below wr.heap.size wr (wr.alloc (.cells #[.string ⟨kk.toArray⟩, .slice va2 l.length vc2, .slice none 0 0] 58)) := ext_alloc (Below.refl _ _)
                have HA := Lib.hid hA
                have HO8 := Lib.hid (own_more PLE.out.cx hA)
                have hml : q + 1 ≤ maxLen := by unfold maxLen; omega
                have hbs : (q + 1) * 64 ≤ 140737488355328 := by omega
                have hsz8 : w.heap.size ≤ (wr.alloc (.cells #[.string ⟨kk.toArray⟩, .slice va2 l.length vc2, .slice none 0 0] 58)).heap.size := by simp; omega
                have HRA8 := Lib.hid ((RA.out.below hA).lower hw0)
                have HS8 := Lib.hid (HSj.out.below hA)
                have HK8 : Hid (Keeps S w (wr.alloc (.cells #[.string ⟨kk.toArray⟩, .slice va2 l.length vc2, .slice none 0 0] 58))) := (HKq.out.trans HKj.out).trans (Keeps.of_below hA)
                have P8 := Lib.hid (PLE.out.p_.below hA)
                clear hA PLq HSq HKq HSj
                as_aux_lemma =>
                  go_wp2_with (first | (refine wpList_val rfl (bl_drp0 _ (fun _ => rfl) _ _ 42 ⟨kk.toArray⟩ va2 l.length vc2 none 0 0 rfl rfl) ?_) | (at_builtin; refine wpList_append_own _ rfl (.tmp 41) (.tmp 43) 26 rfl w.heap.size 58 i1 _ 3 64 Tryz.underlying26 hi1 hy0 hy1 hy2 rfl (by decide) va q ((ctxs.map DCtx.cells).flatten) rfl HO8.out ⟨wr.heap.size, 0, none⟩ 1 1 [.string ⟨kk.toArray⟩, .slice va2 l.length vc2, .slice none 0 0] rfl rfl (news_alloc _ [.string ⟨kk.toArray⟩, .slice va2 l.length vc2, .slice none 0 0] _) (by simp [Value.oneCell']) hml hbs hsz8 ?_; intro v9 w9 hown9 hgr9 _; refine Hid.out ?_))
                  refine Lib.hid ?_
                  obtain ⟨a9, c9, rfl⟩ : ∃ a c, v9 = .slice a (q + 1) c := by
                    rcases shape_own hown9 with ⟨h0, _⟩ | ⟨g, c, e, _⟩
                    · omega
                    · exact ⟨_, _, e⟩
                  have PL9 : Hid (PlW w.heap.size Q P KB (q + 1) (.slice a9 (q + 1) c9) (.slice (some ⟨hg, 0, none⟩) 2 hc) hrs (ctxs ++ [⟨kk, va2, l.length, vc2, l, none, 0, 0, []⟩]) (w9.setCell ⟨P, 0, none⟩ (.slice a9 (q + 1) c9))) := PLE.out.push HA.out hgr9 hown9 ⟨HRA8.out, by show l.length ≤ 10; omega, HKK.out, rfl, rfl, rfl, rfl⟩ hPK hbP
                  have hb9 : Below w.heap.size (wr.alloc (.cells #[.string ⟨kk.toArray⟩, .slice va2 l.length vc2, .slice none 0 0] 58)) w9 := gb_to_below hgr9 hsz8 (fun b hb => by
                    rcases shape_own HO8.out with ⟨_, e⟩ | ⟨g, c, e, h1, _⟩
                    · rw [e] at hb; cases hb
                    · rw [e] at hb; obtain rfl : g = b := Option.some.inj hb; exact h1)
                  have hb10 : Below w.heap.size (wr.alloc (.cells #[.string ⟨kk.toArray⟩, .slice va2 l.length vc2, .slice none 0 0] 58)) (w9.setCell ⟨P, 0, none⟩ (.slice a9 (q + 1) c9)) := hb9.setCell (p := ⟨P, 0, none⟩) hbP _
                  have P9 : Blk w9 P _ 29 := P8.out.grown hgr9 (own_blk HO8.out P8.out (by decide))
                  have q0 := P9.cell 0 rfl
                  have qf := P9.fr 0
                  have HS9 : Hid (StreamOk (w9.setCell ⟨P, 0, none⟩ (.slice a9 (q + 1) c9)) S (k + 40 + 100 * (q + 1))) := (HS8.out.upto (hb10.mono (by omega))).mono (by omega)
                  have HK9 : Hid (Keeps S w (w9.setCell ⟨P, 0, none⟩ (.slice a9 (q + 1) c9))) := keeps_up HK8.out hb10
                  clear p0 f0 c0 c1 c2 hown9 hgr9 hb9 hb10 P9 PLE HA HO8 HRA8 HS8 HK8 P8 RA CB HKj
                  as_aux_lemma =>
                    go_wp2_with fail
                    go_roundw
                    case rel => exact ⟨q + 1, by omega, by go_num, _, _, PL9, HS9, HK9⟩
                    case measure => simp [intOf]; omega
              have hjn : (j : Int) < (m : Int) := by omega
              as_aux_lemma =>
                go_wp2_with fail
                refine (rightRule_any S (k + 40 + 100 * q + 1 + 11 * j) _ HSj.out (by omega)).mono ?_
                rintro e w6 ⟨r, hr, he, hst, hk'⟩
                obtain ⟨re, rn, rp, rt, rm, rh⟩ := r
                have he2 : e = .returned (.agg #[.string ⟨re.str.toArray⟩, .int .i64 rn, .string ⟨rp.toArray⟩, .int .i64 rt, .string ⟨rm.toArray⟩, .string ⟨rh.toArray⟩]) := he
                subst he2
                clear he
                have HR6 := Lib.hid hr
                have RA6 := Lib.hid (RA.out.keeps hk' hSw0)
                have CB6 := Lib.hid (CB.out.keeps hk' hCS)
                have HS6 := Lib.hid hst
                have HK6 := Lib.hid (HKj.out.trans hk')
                have hw6 : w0.heap.size ≤ w6.heap.size := HK6.out.size
                have hC6 : C < w6.heap.size := CB6.out.lt
                clear hr hst hk' RA CB HSj HKj
                have hz0 := Blk.new w6 [.string ⟨#[]⟩, .int .i64 0, .string ⟨#[]⟩, .int .i64 0, .string ⟨#[]⟩, .string ⟨#[]⟩] 63
                have HTH : Hid (World.there (w6.alloc (.cells #[.string ⟨#[]⟩, .int .i64 0, .string ⟨#[]⟩, .int .i64 0, .string ⟨#[]⟩, .string ⟨#[]⟩] 63)) w6.heap.size 0 6) := hz0.th 6 (Nat.le_refl 6)
                have hA : Below w6.heap.size w6 (w6.alloc (.cells #[.string ⟨#[]⟩, .int .i64 0, .string ⟨#[]⟩, .int .i64 0, .string ⟨#[]⟩, .string ⟨#[]⟩] 63)) := ext_alloc (Below.refl _ _)
                have hV : Below w6.heap.size w6 (World.setCells (w6.alloc (.cells #[.string ⟨#[]⟩, .int .i64 0, .string ⟨#[]⟩, .int .i64 0, .string ⟨#[]⟩, .string ⟨#[]⟩] 63)) w6.heap.size 0 [.string ⟨re.str.toArray⟩, .int .i64 rn, .string ⟨rp.toArray⟩, .int .i64 rt, .string ⟨rm.toArray⟩, .string ⟨rh.toArray⟩]) := belowW_put (Nat.le_refl _) hA _
                have R7 : Hid (Blk (World.setCells (w6.alloc (.cells #[.string ⟨#[]⟩, .int .i64 0, .string ⟨#[]⟩, .int .i64 0, .string ⟨#[]⟩, .string ⟨#[]⟩] 63)) w6.heap.size 0 [.string ⟨re.str.toArray⟩, .int .i64 rn, .string ⟨rp.toArray⟩, .int .i64 rt, .string ⟨rm.toArray⟩, .string ⟨rh.toArray⟩]) w6.heap.size [.string ⟨re.str.toArray⟩, .int .i64 rn, .string ⟨rp.toArray⟩, .int .i64 rt, .string ⟨rm.toArray⟩, .string ⟨rh.toArray⟩] 63) := hz0.put6 (.string ⟨re.str.toArray⟩) (.int .i64 rn) (.string ⟨rp.toArray⟩) (.int .i64 rt) (.string ⟨rm.toArray⟩) (.string ⟨rh.toArray⟩)
                have RA7 := Lib.hid (RA6.out.below hV)
                have CB7 := Lib.hid (CB6.out.below hV)
                have HS7 := Lib.hid (HS6.out.below hV)
                have HK7 := Lib.hid (HK6.out.trans (Keeps.of_below hV))
                clear hz0 hA hV RA6 CB6 HS6 HK6
                as_aux_lemma =>
                  go_wp2_with (refine wpList_store_mid rfl 63 (.tmp 9) (.tmp 27) rfl w6.heap.size 0 #[.string ⟨re.str.toArray⟩, .int .i64 rn, .string ⟨rp.toArray⟩, .int .i64 rt, .string ⟨rm.toArray⟩, .string ⟨rh.toArray⟩] rfl rfl HTH.out Tryz.druleSz (by simp [Value.oneCell']) ?_; generalize (World.setCells (w6.alloc (.cells #[.string ⟨#[]⟩, .int .i64 0, .string ⟨#[]⟩, .int .i64 0, .string ⟨#[]⟩, .string ⟨#[]⟩] 63)) w6.heap.size 0 [.string ⟨re.str.toArray⟩, .int .i64 rn, .string ⟨rp.toArray⟩, .int .i64 rt, .string ⟨rm.toArray⟩, .string ⟨rh.toArray⟩]) = w7 at R7 RA7 CB7 HS7 HK7 ⊢; clear HTH; refine Hid.out ?_)
                  refine Lib.hid ?_
                  have hRC : w6.heap.size ≠ C := by omega
                  have hw7 : w0.heap.size ≤ w7.heap.size := HK7.out.size
                  generalize w6.heap.size = R at R7 hw6 hRC ⊢
                  clear hC6
                  have c1 := CB7.out.cell 1 rfl
                  have HHZ := Lib.hid (hasZ_any 29 #[.pointer (some ⟨R, 0, none⟩)] (fun _ _ => rfl) w7 va2 l.length vc2 l (RA7.out.row (by omega)).1.cells (by omega) _ (same_pred ⟨re, rn, rp, rt, rm, rh⟩ R w7 R7.out))
                  have HON : Hid ((l.any fun x => sameR x ⟨re, rn, rp, rt, rm, rh⟩) = false → OnceR (l ++ [⟨re, rn, rp, rt, rm, rh⟩])) := fun hn => once_snoc RA7.out.once hn
                  generalize (l.any fun x => sameR x ⟨re, rn, rp, rt, rm, rh⟩) = bb at HHZ HON
                  as_aux_lemma =>
                    go_wp2_with fail
                    refine HHZ.out.mono ?_
                    rintro e w8 ⟨rfl, hb⟩
                    have RA8 := Lib.hid (RA7.out.below hb)
                    have CB8 := Lib.hid (CB7.out.below hb)
                    have R8 := Lib.hid (R7.out.below hb)
                    have HS8 := Lib.hid (HS7.out.below hb)
                    have HK8 := Lib.hid (HK7.out.trans (Keeps.of_below hb))
                    have hw8 : w0.heap.size ≤ w8.heap.size := HK8.out.size
                    clear hb c1 RA7 CB7 R7 HS7 HK7 HHZ hw7
                    cases bb
                    case true =>
                      have HS9 : Hid (StreamOk w8 S (k + 40 + 100 * q + 1 + 11 * (j + 1))) := HS8.out.mono (by omega)
                      clear HON R8 HR6
                      as_aux_lemma =>
                        go_wp2_with fail
                        go_roundw
                        case rel => exact ⟨j + 1, by omega, by go_num, _, _, by omega, RA8, CB8, HS9, HK8⟩
                        case measure => simp [intOf]; omega
                    have HOK : Hid (RulesAt w8 w0.heap.size (.slice va2 l.length vc2) l ∧ (∀ x ∈ l ++ [⟨re, rn, rp, rt, rm, rh⟩], DRuleOk x) ∧ OnceR (l ++ [⟨re, rn, rp, rt, rm, rh⟩])) := ⟨RA8.out, fun x hx => by
                      rcases List.mem_append.1 hx with hx | hx
                      · exact RA8.out.ok x hx
                      · have : x = (⟨re, rn, rp, rt, rm, rh⟩ : DRule) := List.mem_singleton.1 hx
                        subst this; exact HR6.out, HON.out rfl⟩
                    have hA : Below w8.heap.size w8 (w8.alloc (.cells #[.string ⟨re.str.toArray⟩, .int .i64 rn, .string ⟨rp.toArray⟩, .int .i64 rt, .string ⟨rm.toArray⟩, .string ⟨rh.toArray⟩] 63)) := ext_alloc (Below.refl _ _)
                    have HRX : Hid (w8.rangeAt R 0 [.string ⟨re.str.toArray⟩, .int .i64 rn, .string ⟨rp.toArray⟩, .int .i64 rt, .string ⟨rm.toArray⟩, .string ⟨rh.toArray⟩]) := R8.out.rng
                    have c1 := CB8.out.cell 1 rfl
                    have HOa := Lib.hid (own_more RA8.out.own hA)
                    have CBa := Lib.hid (CB8.out.below hA)
                    have HSa := Lib.hid (HS8.out.below hA)
                    have HKa := Lib.hid (HK8.out.trans (Keeps.of_below hA))
                    have hml : l.length + 1 ≤ maxLen := by unfold maxLen; omega
                    have hbs : (l.length + 1) * 80 ≤ 140737488355328 := by omega
                    have hsza : w0.heap.size ≤ (w8.alloc (.cells #[.string ⟨re.str.toArray⟩, .int .i64 rn, .string ⟨rp.toArray⟩, .int .i64 rt, .string ⟨rm.toArray⟩, .string ⟨rh.toArray⟩] 63)).heap.size := by simp; omega
                    clear hA CB8 R8 HS8 HK8 HR6 HON RA8
                    as_aux_lemma =>
                      go_wp2_with (first | (refine wpList_load_mid rfl 63 (.tmp 9) rfl R 0 rfl [.string ⟨re.str.toArray⟩, .int .i64 rn, .string ⟨rp.toArray⟩, .int .i64 rt, .string ⟨rm.toArray⟩, .string ⟨rh.toArray⟩] _ HRX.out Tryz.underlying63 rfl Tryz.druleSz ?_) | (refine wpList_val rfl (bl_drp1 _ (fun _ => rfl) _ _ 35 ⟨re.str.toArray⟩ rn ⟨rp.toArray⟩ rt ⟨rm.toArray⟩ ⟨rh.toArray⟩ rfl rfl) ?_) | (at_builtin; refine wpList_append_own _ rfl (.tmp 34) (.tmp 36) 55 rfl w0.heap.size 63 i2 _ 6 80 Tryz.underlying55 hi2 hx0 hx1 hx2 rfl (by decide) (.slice va2 l.length vc2) l.length ((l.map DRule.cells).flatten) rfl HOa.out ⟨w8.heap.size, 0, none⟩ 1 1 [.string ⟨re.str.toArray⟩, .int .i64 rn, .string ⟨rp.toArray⟩, .int .i64 rt, .string ⟨rm.toArray⟩, .string ⟨rh.toArray⟩] rfl rfl (news_alloc _ [.string ⟨re.str.toArray⟩, .int .i64 rn, .string ⟨rp.toArray⟩, .int .i64 rt, .string ⟨rm.toArray⟩, .string ⟨rh.toArray⟩] _) (by simp [Value.oneCell']) hml hbs hsza ?_; intro v9 w9 hown9 hgr9 _; refine Hid.out ?_))
                      refine Lib.hid ?_
                      obtain ⟨a9, c9, rfl⟩ : ∃ a c, v9 = .slice a (l.length + 1) c := by
                        rcases shape_own hown9 with ⟨h0, _⟩ | ⟨g, c, e, _⟩
                        · omega
                        · exact ⟨_, _, e⟩
                      have hb9 : Below w0.heap.size (w8.alloc (.cells #[.string ⟨re.str.toArray⟩, .int .i64 rn, .string ⟨rp.toArray⟩, .int .i64 rt, .string ⟨rm.toArray⟩, .string ⟨rh.toArray⟩] 63)) w9 := gb_to_below hgr9 hsza (fun b hb => by
                        rcases shape_own HOa.out with ⟨_, e⟩ | ⟨g, c, e, h1, _⟩
                        · rw [e] at hb; cases hb
                        · rw [e] at hb; obtain rfl : g = b := Option.some.inj hb; exact h1)
                      have hb10 : Below w0.heap.size (w8.alloc (.cells #[.string ⟨re.str.toArray⟩, .int .i64 rn, .string ⟨rp.toArray⟩, .int .i64 rt, .string ⟨rm.toArray⟩, .string ⟨rh.toArray⟩] 63)) (w9.setCell ⟨C, 1, none⟩ (.slice a9 (l.length + 1) c9)) := hb9.setCell (p := ⟨C, 1, none⟩) hC0 _
                      have CB9 : Blk w9 C _ 58 := CBa.out.grown hgr9 (own_blk HOa.out CBa.out (by decide))
                      have CB10 : Hid (Blk (w9.setCell ⟨C, 1, none⟩ (.slice a9 (l.length + 1) c9)) C [.string ⟨kk.toArray⟩, .slice a9 (l.length + 1) c9, .slice none 0 0] 58) := CB9.put 1 _
                      have q1 := CB9.cell 1 rfl
                      have qf := CB9.fr 1
                      have HS10 : Hid (StreamOk (w9.setCell ⟨C, 1, none⟩ (.slice a9 (l.length + 1) c9)) S (k + 40 + 100 * q + 1 + 11 * (j + 1))) := (HSa.out.upto (hb10.mono (by omega))).mono (by omega)
                      have HK10 : Hid (Keeps S w0 (w9.setCell ⟨C, 1, none⟩ (.slice a9 (l.length + 1) c9))) := keeps_up HKa.out hb10
                      have hgC : w9.grownBy (w9.setCell ⟨C, 1, none⟩ (.slice a9 (l.length + 1) c9)) (some C) := ⟨rfl, rfl, rfl, by simp [World.setCell], fun k hk hn => Below.heap_setCell _ _ _ _ (fun e => hn (by rw [e]))⟩
                      have RA10 : Hid (RulesAt (w9.setCell ⟨C, 1, none⟩ (.slice a9 (l.length + 1) c9)) w0.heap.size (.slice a9 (l.length + 1) c9) (l ++ [⟨re, rn, rp, rt, rm, rh⟩])) := ⟨by
                        rw [List.length_append, List.map_append, List.flatten_append]
                        have e : ([(⟨re, rn, rp, rt, rm, rh⟩ : DRule)].map DRule.cells).flatten = [.string ⟨re.str.toArray⟩, .int .i64 rn, .string ⟨rp.toArray⟩, .int .i64 rt, .string ⟨rm.toArray⟩, .string ⟨rh.toArray⟩] := by simp [DRule.cells]
                        rw [e]
                        exact own_gb hown9 hgC (fun b hb e2 => own_blk hown9 CB9 (by decide) (by rw [hb, e2])), HOK.out.2.1, HOK.out.2.2⟩
                      have hl10 : (l ++ [(⟨re, rn, rp, rt, rm, rh⟩ : DRule)]).length ≤ j + 1 := by rw [List.length_append]; simp; omega
                      clear hgC hown9 hgr9 hb9 hb10 CB9 HOa CBa HSa HKa HRX c1 HOK
                      as_aux_lemma =>
                        go_wp2_with fail
                        go_roundw
                        case rel => exact ⟨j + 1, by omega, by go_num, _, _, hl10, RA10, CB10, HS10, HK10⟩
                        case measure => simp [intOf]; omega
end Go.Proofs.YtamlhapiehchoaaGreatDoor

set_option linter.unusedVariables false
set_option linter.unusedSimpArgs false
namespace Go.Proofs.YtamlhapiehchoaaGreatDoor
open Go.RowKit

def Begins2 (x b : Bool) (w : World) (e : Ending) (w' : World) : Prop := e = .returned (.tuple #[.bool x, .bool b]) ∧ Below w.heap.size w w'
theorem some_no {p : Pat} {d : List Nat} {k : Nat} (hk : k < d.length) (h : (p.at_ k).testBit (d.getD k 0) = false) : someB p d = false := by
  unfold someB
  have : ((List.range d.length).all fun i => (p.at_ i).testBit (d.getD i 0)) = false := by
    rw [List.all_eq_false]
    exact ⟨k, by simpa using hk, by rw [h]; decide⟩
  rw [this]; rfl
theorem some_yes {p : Pat} {d : List Nat} (h : ∀ i, i < d.length → (p.at_ i).testBit (d.getD i 0) = true) : someB p d = (decide (p.at_ d.length ≠ 0) || p.fin d.length) := by
  unfold someB
  have : ((List.range d.length).all fun i => (p.at_ i).testBit (d.getD i 0)) = true := by
    rw [List.all_eq_true]
    intro i hi
    exact h i (by simpa using hi)
  rw [this]; rfl
set_option maxRecDepth 100000 in
set_option maxHeartbeats 2000000 in
theorem begins2_any (w : World) (a : Option Addr) (n cap : Nat) (p : Pat) (h : PatAt w a n p) (hp : PatOk p) (s : ByteArray) (d : List Nat) (hs : s.data.toList = d.map signN) (hd : ∀ j, j < d.length → d.getD j 0 < 12) (hl : d.length ≤ 100) :
    Calls Tryz.prog 54 #[patVal a n cap p, .string s] w (Begins2 (someB p d) (matchB p d) w) := by
  have hsz : s.size = d.length := by
    show s.data.size = _
    rw [← Array.length_toList, hs, List.length_map]
  have HP := Lib.hid h
  have HOK := Lib.hid hp
  have HS := Lib.hid hs
  have HD := Lib.hid hd
  have HSZ := Lib.hid hsz
  have hl2 : s.size ≤ 100 := by omega
  have HPV : Hid (∀ x, Value.agg #[.slice a n cap, .int .u8 x] = Value.agg #[.slice a n cap, .int .u8 x]) := fun x => rfl
  clear h hp hs hd hsz
  unfold patVal
  go_enter Tryz.func54, Tryz.ntmps54
  go_wp2_with fail
  go_loopw [12] (fun it wr => ∃ k : Nat, k ≤ s.size ∧ it = .int .i64 k ∧ Hid (∀ i, i < k → (p.at_ i).testBit (d.getD i 0) = true) ∧ Hid (Below (w.alloc (boxP a n cap p.tail)).heap.size (w.alloc (boxP a n cap p.tail)) wr)) (fun it _ => s.size - (intOf it).toNat)
  case atStart => exact ⟨0, Nat.zero_le _, rfl, (fun i hi => by omega), Below.refl _ _⟩
  case round =>
    obtain ⟨k, hk, rfl, HALL, HB⟩ := hrel
    have c0 := (HB.out.cell (p := ⟨w.heap.size, 0, none⟩) (by simp)).trans (show _ = some (.slice a n cap) by unfold boxP; go_simp)
    have c1 := (HB.out.cell (p := ⟨w.heap.size, 1, none⟩) (by simp)).trans (show _ = some (.int .u8 p.tail) by unfold boxP; go_simp)
    have HBW : Hid (Below w.heap.size w wr) := ext_trans (ext_alloc (Below.refl _ _)) HB.out
    have HPk := Lib.hid (HP.out.below HBW.out)
    by_cases hlt : k < s.size
    · have hkd : k < d.length := by rw [← HSZ.out]; exact hlt
      have hdk := HD.out k hkd
      have x0 : (s[k]'hlt).toNat = (signN (d.getD k 0)).toNat := byte_at s k _ hlt (by rw [HS.out, List.getElem?_map, List.getElem?_eq_getElem hkd]; simp [List.getD_eq_getElem?_getD, List.getElem?_eq_getElem hkd])
      have hat := Pat.at_lt HOK.out k
      have HMN : Hid ((p.at_ k).testBit (d.getD k 0) = false → matchB p d = false) := match_no hkd
      have HMS : Hid ((p.at_ k).testBit (d.getD k 0) = false → someB p d = false) := some_no hkd
      have HNX : Hid ((p.at_ k).testBit (d.getD k 0) = true → ∀ i, i < k + 1 → (p.at_ i).testBit (d.getD i 0) = true) := fun e i hi => by
        by_cases h9 : i = k
        · subst h9; exact e
        · exact HALL.out i (by omega)
      have hand := u16_and (p.at_ k) (d.getD k 0) hat hdk
      have HOA : Hid (∀ w, Calls Tryz.prog 92 #[.int .u8 (signN (d.getD k 0)).toNat] w fun e w' => e = .returned (.int .u16 ((2 ^ (d.getD k 0) : Nat) : Int)) ∧ w = w') := fun w => only_at _ hdk w
      have hpos : 0 < 2 ^ (d.getD k 0) := Nat.pow_pos (by omega)
      generalize (signN (d.getD k 0)).toNat = c at x0 HOA
      generalize 2 ^ (d.getD k 0) = pw at hand HOA hpos
      go_wp2_with fail
      refine (takes_any _ a n cap p HPk.out HOK.out k (by omega)).mono ?_
      rintro e w1 ⟨rfl, hB1⟩
      have HB1 := Lib.hid (HB.out.trans (hB1.mono (HB.out.size)))
      have HBW1 := Lib.hid (ext_trans HBW.out hB1)
      clear hB1 c0 c1
      generalize p.at_ k = m at hand hat HMN HMS HNX
      generalize p.fin k = fk
      cases htb : m.testBit (d.getD k 0)
      · rw [htb] at hand
        simp only [Bool.false_eq_true, if_false] at hand
        have HF := Lib.hid (HMN.out htb)
        have HG := Lib.hid (HMS.out htb)
        clear htb HMN HMS HNX
        go_wp2_with (go_at_call 92; refine (HOA.out _).mono ?_; rintro e w' ⟨rfl, rfl⟩)
        go_ret2
        exact ⟨by rw [HF.out, HG.out]; rfl, HBW1.out⟩
      · rw [htb, if_pos rfl] at hand
        have hne : ((pw : Int) == 0) = false := by simp; omega
        have HN := Lib.hid (HNX.out htb)
        clear htb HMN HMS HNX
        go_wp2_with (go_at_call 92; refine (HOA.out _).mono ?_; rintro e w' ⟨rfl, rfl⟩)
        go_roundw
        case rel => exact ⟨k + 1, by omega, by go_num, HN, HB1⟩
        case measure => simp [intOf]; omega
    · obtain rfl : k = s.size := by omega
      have HFIN : Hid (matchB p d = p.fin s.size) := by
        show _ = _
        rw [HSZ.out]
        exact match_yes (fun i hi => HALL.out i (by rw [HSZ.out]; exact hi))
      have HSM : Hid (someB p d = (decide (p.at_ s.size ≠ 0) || p.fin s.size)) := by
        show _ = _
        rw [HSZ.out]
        exact some_yes (fun i hi => HALL.out i (by rw [HSZ.out]; exact hi))
      have hat := Pat.at_lt HOK.out s.size
      go_wp2_with fail
      refine (takes_any _ a n cap p HPk.out HOK.out s.size (by omega)).mono ?_
      rintro e w1 ⟨rfl, hB1⟩
      have HBW1 := Lib.hid (ext_trans HBW.out hB1)
      clear hB1 c0 c1
      generalize p.at_ s.size = m at hat HSM ⊢
      generalize p.fin s.size = fk at HFIN HSM ⊢
      by_cases hm : m = 0
      · subst hm
        go_wp2_with fail
        go_ret2
        exact ⟨by rw [HFIN.out, HSM.out]; rfl, HBW1.out⟩
      · have hm2 : ((m : Int) != 0) = true := by simp; exact hm
        have HME : Hid (decide (m ≠ 0) = true) := decide_eq_true hm
        clear hm
        go_wp2_with fail
        go_ret2
        exact ⟨by rw [HFIN.out, HSM.out, HME.out]; rfl, HBW1.out⟩

end Go.Proofs.YtamlhapiehchoaaGreatDoor

set_option linter.unusedVariables false
set_option linter.unusedSimpArgs false
namespace Go.Proofs.YtamlhapiehchoaaGreatDoor
open Go.RowKit Go.Lib

theorem Tryz.dpatSz : (Tryz.prog.info? 82).map (·.size) = some 2 := by kernel_rfl
def optI (o : Option Nat) : Int := match o with
  | none => -1
  | some i => i
def opR (p : DPlan) (at_ : Int) (r : DRule) : Bool := openR p.hrs at_ r.hours
/-- The pattern that is the most special one so far. -/
structure MostAt (W : World) (M : Nat) (rules : List DRule) (best : Option Nat) : Prop where
  at_ : ∃ (a : Option Addr) (n c t : Nat), Blk W M [.slice a n c, .int .u8 t] 82 ∧ ∀ b, best = some b → t = (rules.getD b noDRule).els.pat.tail ∧ PatAt W a n (rules.getD b noDRule).els.pat
theorem MostAt.below {W W' : World} {M : Nat} {rules : List DRule} {best : Option Nat} (h : MostAt W M rules best) (hb : Below W.heap.size W W') : MostAt W' M rules best := by
  obtain ⟨a, n, c, t, h1, h2⟩ := h.at_
  exact ⟨a, n, c, t, h1.below hb, fun b hbb => ⟨(h2 b hbb).1, (h2 b hbb).2.below hb⟩⟩
theorem Blk.put2 {w : World} {B : Nat} {c0 c1 : Value} {ty : TypeId} (h : Blk w B [c0, c1] ty) (v0 v1 : Value) : Blk (w.setCells B 0 [v0, v1]) B [v0, v1] ty := (h.put 0 v0).put 1 v1
theorem decr_succ {rs : List DRule} {op : DRule → Bool} {d : List Nat} {j : Nat} : decTo rs op d (j + 1) = if (hitB op d (rs.getD j noDRule) && betterB rs j (decTo rs op d j)) = true then some j else decTo rs op d j := rfl
theorem decr_skip {rs : List DRule} {op : DRule → Bool} {d : List Nat} {j : Nat} (h : hitB op d (rs.getD j noDRule) = false) : decTo rs op d (j + 1) = decTo rs op d j := by
  rw [decr_succ, h, Bool.false_and, if_neg (by decide)]
theorem decr_first {rs : List DRule} {op : DRule → Bool} {d : List Nat} {j : Nat} (h : hitB op d (rs.getD j noDRule) = true) (hn : decTo rs op d j = none) : decTo rs op d (j + 1) = some j := by
  rw [decr_succ, h, hn]
  rfl
theorem decr_less {rs : List DRule} {op : DRule → Bool} {d : List Nat} {j b : Nat} (h : hitB op d (rs.getD j noDRule) = true) (hb : decTo rs op d j = some b) : decTo rs op d (j + 1) = if befI (rs.getD j noDRule).els (rs.getD b noDRule).els < 0 then some j else some b := by
  rw [decr_succ, h, hb]
  unfold betterB
  simp only [Bool.true_and, decide_eq_true_eq]
theorem below_at {w W : World} {M : Nat} {vs : List Value} (hM : w.heap.size ≤ M) (h : Below w.heap.size w W) : Below w.heap.size w (W.setCells M 0 vs) := h.trans (below_setCellsD hM vs W 0)
theorem PatAt.ne {W : World} {a : Option Addr} {n : Nat} {p : Pat} (h : PatAt W a n p) (hn : 0 < n) {M : Nat} {sa : Option Addr} {sn sc : Nat} {v : Value} {ty : TypeId} (hM : Blk W M [.slice sa sn sc, v] ty) : ∀ g, a = some ⟨g, 0, none⟩ → g ≠ M := by
  intro g hg e
  subst e
  rcases h.row with h0 | ⟨g', ha, _, hc⟩
  · omega
  · rw [hg] at ha
    injection ha with ha
    injection ha with ha
    subst ha
    have h1 := hc 0 hn
    rw [hM.cell 0 rfl] at h1
    cases h1
theorem Blk.offS {W : World} {B M : Nat} {vs cs : List Value} {ty : TypeId} (h : Blk W B cs ty) (hn : B ≠ M) : Blk (W.setCells M 0 vs) B cs ty := h.grown (setCells_gb M vs 0) (fun e => hn (Option.some.inj e).symm)
theorem PatAt.put {W : World} {a : Option Addr} {n : Nat} {p : Pat} (h : PatAt W a n p) {M : Nat} (hM : ∀ g, a = some ⟨g, 0, none⟩ → g ≠ M) (vs : List Value) : PatAt (W.setCells M 0 vs) a n p := by
  have hk : ∀ (vs : List Value) (W : World) (o g j : Nat), g ≠ M → (W.setCells M o vs).cell? ⟨g, j, none⟩ = W.cell? ⟨g, j, none⟩ := by
    intro vs
    induction vs with
    | nil => intro W o g j hg; rfl
    | cons v vs ih =>
      intro W o g j hg
      exact (ih (W.setCell ⟨M, o, none⟩ v) (o + 1) g j hg).trans (World.cell?_setCell_other _ _ _ _ (fun e => hg (by injection e with e1; exact e1.symm)))
  have hs : ∀ (vs : List Value) (W : World) (o : Nat), (W.setCells M o vs).heap.size = W.heap.size := by
    intro vs
    induction vs with
    | nil => intro W o; rfl
    | cons v vs ih => intro W o; exact (ih (W.setCell ⟨M, o, none⟩ v) (o + 1)).trans (by simp [World.setCell])
  refine ⟨h.len, h.row.imp id ?_⟩
  rintro ⟨g, ha, hg, hc⟩
  exact ⟨g, ha, by rw [hs]; exact hg, fun i hi => (hk vs W 0 g i (hM g ha)).trans (hc i hi)⟩
theorem most_put {W : World} {M : Nat} {rules : List DRule} {best : Option Nat} {a : Option Addr} {n c : Nat} {j : Nat} (h : MostAt W M rules best) (hp : PatAt W a n (rules.getD j noDRule).els.pat) (hn : 0 < n) : MostAt (W.setCells M 0 [.slice a n c, .int .u8 (rules.getD j noDRule).els.pat.tail]) M rules (some j) := by
  obtain ⟨ma, mn, mc, mt, hM, _⟩ := h.at_
  refine ⟨a, n, c, _, hM.put2 _ _, fun b hb => ?_⟩
  injection hb with hb
  subst hb
  exact ⟨rfl, hp.put (hp.ne hn hM) _⟩
set_option maxRecDepth 100000 in
set_option maxHeartbeats 8000000 in
theorem decides_any (w : World) (p : DPlan) (hp : DPlanFine w p) (k : Nat) (hk : k < 3) (d : List Nat) (hd : ∀ j, j < d.length → d.getD j 0 < 12) (hdl : d.length ≤ 30) (at_ : Int) (a0 : 0 ≤ at_) (a1 : at_ ≤ 345686400000) :
    Calls Tryz.prog 33 #[.agg p.cells.toArray, .agg (p.ctxs.getD k noDCtx).cells.toArray, .string ⟨(d.map signN).toArray⟩, .int .i64 at_] w (IntP (optI (decIn (p.ctxs.getD k noDCtx).rules (opR p at_) d)) w) := by
  have HCN : Hid (∀ W, Below w.heap.size w W → ∀ s, s ∈ ([[], [104, 97], [104, 98]] : List (List UInt8)) → Calls Tryz.prog 35 #[.agg p.cells.toArray, .string ⟨s.toArray⟩, .int .i64 at_] W (BoolP (openR p.hrs at_ s) W)) := fun W hW s hs => counts_any W p (hp.below hW) s hs at_ a0 a1
  have HOP : Hid (∀ r, opR p at_ r = openR p.hrs at_ r.hours) := fun r => rfl
  have hc := hp.each k hk
  clear hp a0 a1
  generalize hop : opR p at_ = op at HOP ⊢
  clear hop
  generalize p.ctxs.getD k noDCtx = c at hc ⊢
  obtain ⟨ca, cn, cc, ctxs, ha, hn, hcp, hrs⟩ := p
  obtain ⟨key, ra, rn, rc, rules, ia, inn, ic, incs⟩ := c
  have hr := hc.rules
  simp only at hr HOP ⊢
  have hlen := hr.len
  have hfew := hr.few
  have HRR : Hid (∀ j, j < rn → DRuleOk (rules.getD j noDRule) ∧ ∃ b off, ra = some ⟨b, off, none⟩ ∧ ∀ W, Below w.heap.size w W → W.rangeAt b (off + j * 6) ((rules.getD j noDRule).cells)) := fun j hj => by
    obtain ⟨b, off, rfl, hbl, hcl⟩ := hr.at (by omega)
    obtain ⟨q0, q1, q2, q3, q4, q5⟩ := hcl j hj
    exact ⟨hr.each j (by omega), b, off, rfl, fun W hW => rule_range ((hW.cell (p := ⟨b, off + j * 6, none⟩) hbl).trans q0) ((hW.cell (p := ⟨b, off + j * 6 + 1, none⟩) hbl).trans q1) ((hW.cell (p := ⟨b, off + j * 6 + 2, none⟩) hbl).trans q2) ((hW.cell (p := ⟨b, off + j * 6 + 3, none⟩) hbl).trans q3) ((hW.cell (p := ⟨b, off + j * 6 + 4, none⟩) hbl).trans q4) ((hW.cell (p := ⟨b, off + j * 6 + 5, none⟩) hbl).trans q5)⟩
  have HDI : Hid (decIn rules op d = decTo rules op d rn) := by show _ = _; rw [hlen]; rfl
  have HBG : Hid (∀ (W : World) (a : Option Addr) (n c : Nat) (q : Pat), PatAt W a n q → PatOk q → Calls Tryz.prog 54 #[patVal a n c q, .string ⟨(d.map signN).toArray⟩] W (Begins2 (someB q d) (matchB q d) W)) := fun W a n c q h1 h2 => begins2_any W a n c q h1 h2 ⟨(d.map signN).toArray⟩ d rfl hd (by omega)
  clear hr hc hlen
  have HCN2 : Hid (∀ W, Below w.heap.size w W → ∀ s, s ∈ ([[], [104, 97], [104, 98]] : List (List UInt8)) → Calls Tryz.prog 35 #[.agg #[.slice ca cn cc, .slice ha hn hcp], .string ⟨s.toArray⟩, .int .i64 at_] W (BoolP (openR hrs at_ s) W)) := HCN.out
  clear HCN hd hdl
  generalize decIn rules op d = res at HDI ⊢
  generalize (⟨(d.map signN).toArray⟩ : ByteArray) = ds at HBG ⊢
  show Calls Tryz.prog 33 #[.agg #[.slice ca cn cc, .slice ha hn hcp], .agg #[.string ⟨key.toArray⟩, .slice ra rn rc, .slice ia inn ic], .string ds, .int .i64 at_] w (IntP (optI res) w)
  have P1 : Hid (Blk (((w.alloc (.cells #[.slice ca cn cc, .slice ha hn hcp] 29)).alloc (.cells #[.string ⟨key.toArray⟩, .slice ra rn rc, .slice ia inn ic] 58)).alloc (.cells #[.slice none 0 0, .int .u8 0] 82)) w.heap.size [.slice ca cn cc, .slice ha hn hcp] 29) := ((Blk.new w _ _).alloc _).alloc _
  have C1 : Hid (Blk (((w.alloc (.cells #[.slice ca cn cc, .slice ha hn hcp] 29)).alloc (.cells #[.string ⟨key.toArray⟩, .slice ra rn rc, .slice ia inn ic] 58)).alloc (.cells #[.slice none 0 0, .int .u8 0] 82)) (w.heap.size + 1) [.string ⟨key.toArray⟩, .slice ra rn rc, .slice ia inn ic] 58) := by
    have := Blk.new (w.alloc (.cells #[.slice ca cn cc, .slice ha hn hcp] 29)) [.string ⟨key.toArray⟩, .slice ra rn rc, .slice ia inn ic] 58
    rw [show (w.alloc (.cells #[.slice ca cn cc, .slice ha hn hcp] 29)).heap.size = w.heap.size + 1 by simp] at this
    exact this.alloc _
  have M1 : Hid (MostAt (((w.alloc (.cells #[.slice ca cn cc, .slice ha hn hcp] 29)).alloc (.cells #[.string ⟨key.toArray⟩, .slice ra rn rc, .slice ia inn ic] 58)).alloc (.cells #[.slice none 0 0, .int .u8 0] 82)) (w.heap.size + 2) rules none) := by
    have := Blk.new ((w.alloc (.cells #[.slice ca cn cc, .slice ha hn hcp] 29)).alloc (.cells #[.string ⟨key.toArray⟩, .slice ra rn rc, .slice ia inn ic] 58)) [.slice none 0 0, .int .u8 0] 82
    rw [show ((w.alloc (.cells #[.slice ca cn cc, .slice ha hn hcp] 29)).alloc (.cells #[.string ⟨key.toArray⟩, .slice ra rn rc, .slice ia inn ic] 58)).heap.size = w.heap.size + 2 by simp] at this
    exact ⟨none, 0, 0, 0, this, fun b h => by cases h⟩
  have HB1 : Hid (Below w.heap.size w (((w.alloc (.cells #[.slice ca cn cc, .slice ha hn hcp] 29)).alloc (.cells #[.string ⟨key.toArray⟩, .slice ra rn rc, .slice ia inn ic] 58)).alloc (.cells #[.slice none 0 0, .int .u8 0] 82))) := ext_alloc (ext_alloc (ext_alloc (Below.refl _ _)))
  go_enter Tryz.func33, Tryz.ntmps33
  go_upto_region 3 with (fail)
  generalize (((w.alloc (.cells #[.slice ca cn cc, .slice ha hn hcp] 29)).alloc (.cells #[.string ⟨key.toArray⟩, .slice ra rn rc, .slice ia inn ic] 58)).alloc (.cells #[.slice none 0 0, .int .u8 0] 82)) = w1 at P1 C1 M1 HB1 ⊢
  obtain ⟨P, hP⟩ : ∃ P, P = w.heap.size := ⟨_, rfl⟩
  obtain ⟨C, hC⟩ : ∃ C, C = w.heap.size + 1 := ⟨_, rfl⟩
  obtain ⟨M, hM⟩ : ∃ M, M = w.heap.size + 2 := ⟨_, rfl⟩
  rw [← hP] at P1
  rw [← hC] at C1
  rw [← hM] at M1
  simp only [← hM, show w.heap.size + 1 + 1 = M from hM.symm]
  simp only [← hC]
  simp only [← hP]
  have hne : P ≠ M ∧ C ≠ M ∧ w.heap.size ≤ M := ⟨by omega, by omega, by omega⟩
  clear hP hC hM
  have c1 := C1.out.cell 1 rfl
  as_aux_lemma =>
    go_wp2_with fail
    go_loopw [9, 20] (fun vb it wr => ∃ j : Nat, j ≤ rn ∧ it = .int .i64 j ∧ vb = .int .i64 (optI (decTo rules op d j)) ∧ Hid (Below w.heap.size w wr) ∧ Hid (Blk wr P [.slice ca cn cc, .slice ha hn hcp] 29) ∧ Hid (Blk wr C [.string ⟨key.toArray⟩, .slice ra rn rc, .slice ia inn ic] 58) ∧ Hid (MostAt wr M rules (decTo rules op d j))) (fun _ it _ => rn - (intOf it).toNat)
    case atStart => exact ⟨0, Nat.zero_le _, rfl, rfl, HB1, P1, C1, M1⟩
    case round =>
      obtain ⟨j, hj, rfl, rfl, HB2, P2, C2, M2⟩ := hrel
      clear c1 HB1 P1 C1 M1
      by_cases hlt : j < rn
      case neg =>
        have hjn : ¬ (j : Int) < (rn : Int) := by omega
        have hres : decTo rules op d j = res := by rw [HDI.out, show j = rn by omega]
        rw [hres]
        clear hres M2 HDI HRR HBG HCN2 HOP C2 P2
        as_aux_lemma =>
          go_wp2_with fail
          go_ret
          exact ⟨rfl, HB2.out⟩
      obtain ⟨hok, b0, off, rfl, hrg⟩ := HRR.out j hlt
      have HRG0 := hrg wr HB2.out
      obtain ⟨hels, hstrip, hpre, hto, hnamed, hbare, hhours⟩ := hok
      have HHT : Hid (hitB op d (rules.getD j noDRule) = (matchB (rules.getD j noDRule).els.pat d && openR hrs at_ (rules.getD j noDRule).hours)) := by show _ = _; unfold hitB; rw [HOP.out]
      have HELS : Hid (ElsOk (rules.getD j noDRule).els) := hels
      have HHX := Lib.hid (fun W hW => HCN2.out W hW _ hhours)
      have HRD : Hid (∀ W, Calls Tryz.prog 34 #[.string ⟨(rules.getD j noDRule).els.str.toArray⟩] W (ReadPat (rules.getD j noDRule).els.pat W)) := fun W => read_any W _ hels _ rfl
      have HRJ : Hid ((rules.getD j noDRule).els = (rules.getD j noDRule).els) := rfl
      clear hels hstrip hpre hto hnamed hbare hhours hrg
      unfold DRule.cells at HRG0
      obtain ⟨rl, hrl⟩ : ∃ r, r = rules.getD j noDRule := ⟨_, rfl⟩
      rw [← hrl] at HRG0 HHT HELS HHX HRD
      have HRL := Lib.hid hrl
      clear hrl HRJ
      obtain ⟨rel, rn_, rp, rt, rm, rh⟩ := rl
      simp only at HRG0 HHT HELS HHX HRD
      have HRG := Lib.hid HRG0
      clear HRG0
      generalize rel.str = rs at HRG HRD
      generalize openR hrs at_ rh = oh at HHT HHX
      have hj0 : ¬ ((j : Int) < 0) := by omega
      have hjn : (j : Int) < (rn : Int) := by omega
      have hz0 := Blk.new wr [.string ⟨#[]⟩, .int .i64 0, .string ⟨#[]⟩, .int .i64 0, .string ⟨#[]⟩, .string ⟨#[]⟩] 63
      have HTH : Hid (World.there (wr.alloc (.cells #[.string ⟨#[]⟩, .int .i64 0, .string ⟨#[]⟩, .int .i64 0, .string ⟨#[]⟩, .string ⟨#[]⟩] 63)) wr.heap.size 0 6) := hz0.th 6 (Nat.le_refl 6)
      have hA : Below wr.heap.size wr (wr.alloc (.cells #[.string ⟨#[]⟩, .int .i64 0, .string ⟨#[]⟩, .int .i64 0, .string ⟨#[]⟩, .string ⟨#[]⟩] 63)) := ext_alloc (Below.refl _ _)
      have hV : Below wr.heap.size wr (World.setCells (wr.alloc (.cells #[.string ⟨#[]⟩, .int .i64 0, .string ⟨#[]⟩, .int .i64 0, .string ⟨#[]⟩, .string ⟨#[]⟩] 63)) wr.heap.size 0 [.string ⟨rs.toArray⟩, .int .i64 rn_, .string ⟨rp.toArray⟩, .int .i64 rt, .string ⟨rm.toArray⟩, .string ⟨rh.toArray⟩]) := belowW_put (Nat.le_refl _) hA _
      have R3 : Hid (Blk (World.setCells (wr.alloc (.cells #[.string ⟨#[]⟩, .int .i64 0, .string ⟨#[]⟩, .int .i64 0, .string ⟨#[]⟩, .string ⟨#[]⟩] 63)) wr.heap.size 0 [.string ⟨rs.toArray⟩, .int .i64 rn_, .string ⟨rp.toArray⟩, .int .i64 rt, .string ⟨rm.toArray⟩, .string ⟨rh.toArray⟩]) wr.heap.size [.string ⟨rs.toArray⟩, .int .i64 rn_, .string ⟨rp.toArray⟩, .int .i64 rt, .string ⟨rm.toArray⟩, .string ⟨rh.toArray⟩] 63) := hz0.put6 (.string ⟨rs.toArray⟩) (.int .i64 rn_) (.string ⟨rp.toArray⟩) (.int .i64 rt) (.string ⟨rm.toArray⟩) (.string ⟨rh.toArray⟩)
      have P3 := Lib.hid (P2.out.below hV)
      have C3 := Lib.hid (C2.out.below hV)
      have M3 := Lib.hid (M2.out.below hV)
      have HB3 := Lib.hid (ext_trans HB2.out hV)
      clear hz0 hA hV P2 C2 M2 HB2
      have HRH := Lib.hid (HHX.out)
      clear HHX
      as_aux_lemma =>
        go_wp2_with (first | (refine wpList_load_mid rfl 63 (.tmp 23) rfl b0 (off + j * 6) rfl [.string ⟨rs.toArray⟩, .int .i64 rn_, .string ⟨rp.toArray⟩, .int .i64 rt, .string ⟨rm.toArray⟩, .string ⟨rh.toArray⟩] _ HRG.out Tryz.underlying63 rfl Tryz.druleSz ?_) | (refine wpList_store_mid rfl 63 (.tmp 12) (.tmp 24) rfl wr.heap.size 0 #[.string ⟨rs.toArray⟩, .int .i64 rn_, .string ⟨rp.toArray⟩, .int .i64 rt, .string ⟨rm.toArray⟩, .string ⟨rh.toArray⟩] rfl rfl HTH.out Tryz.druleSz (by simp [Value.oneCell']) ?_; generalize (World.setCells (wr.alloc (.cells #[.string ⟨#[]⟩, .int .i64 0, .string ⟨#[]⟩, .int .i64 0, .string ⟨#[]⟩, .string ⟨#[]⟩] 63)) wr.heap.size 0 [.string ⟨rs.toArray⟩, .int .i64 rn_, .string ⟨rp.toArray⟩, .int .i64 rt, .string ⟨rm.toArray⟩, .string ⟨rh.toArray⟩]) = w3 at P3 C3 M3 R3 HB3 ⊢; clear HTH HRG; refine Hid.out ?_))
        refine Lib.hid ?_
        generalize wr.heap.size = R at R3 ⊢
        have r0 := R3.out.cell 0 rfl
        as_aux_lemma =>
          go_wp2_with fail
          refine (HRD.out _).mono ?_
          rintro e w4 ⟨xa, xn, xc, rfl, hpx, hb⟩
          have HPX4 := Lib.hid hpx
          have HB4 := Lib.hid (ext_trans HB3.out hb)
          have P4 := Lib.hid (P3.out.below hb)
          have C4 := Lib.hid (C3.out.below hb)
          have M4 := Lib.hid (M3.out.below hb)
          have R4 := Lib.hid (R3.out.below hb)
          clear hb hpx r0 HB3 P3 C3 M3 R3 HRD
          have hA : Below w4.heap.size w4 (w4.alloc (.cells #[.slice xa xn xc, .int .u8 rel.pat.tail] 82)) := ext_alloc (Below.refl _ _)
          have X5 : Hid (Blk (w4.alloc (.cells #[.slice xa xn xc, .int .u8 rel.pat.tail] 82)) w4.heap.size [.slice xa xn xc, .int .u8 rel.pat.tail] 82) := Blk.new w4 _ _
          have HB5 := Lib.hid (ext_trans HB4.out hA)
          have P5 := Lib.hid (P4.out.below hA)
          have C5 := Lib.hid (C4.out.below hA)
          have M5 := Lib.hid (M4.out.below hA)
          have R5 := Lib.hid (R4.out.below hA)
          have HPX5 := Lib.hid (HPX4.out.below hA)
          have hM4 : M < w4.heap.size := by
            obtain ⟨_, _, _, _, BM, _⟩ := M4.out.at_
            exact BM.lt
          clear hA HB4 P4 C4 M4 R4 HPX4
          as_aux_lemma =>
            unfold patVal
            go_upto_region 7 with (fail)
            generalize w4.alloc (.cells #[.slice xa xn xc, .int .u8 rel.pat.tail] 82) = w5 at X5 HB5 P5 C5 M5 R5 HPX5 ⊢
            have hxn : 0 < xn := by have h1 := HPX5.out.len; have h2 := (Els.ok HELS.out).len1; omega
            have hXM : w4.heap.size ≠ M := by
              have h9 : M < w4.heap.size := hM4
              omega
            generalize w4.heap.size = X at X5 hXM ⊢
            have HBN := Lib.hid (HBG.out w5 xa xn xc rel.pat HPX5.out (Els.ok HELS.out))
            have x0 := X5.out.cell 0 rfl
            have x1 := X5.out.cell 1 rfl
            go_wp2_with fail
            refine HBN.out.mono ?_
            rintro e w6 ⟨rfl, hb⟩
            clear x0 x1 HBN
            have HB6 := Lib.hid (ext_trans HB5.out hb)
            have P6 := Lib.hid (P5.out.below hb)
            have C6 := Lib.hid (C5.out.below hb)
            have M6 := Lib.hid (M5.out.below hb)
            have R6 := Lib.hid (R5.out.below hb)
            have X6 := Lib.hid (X5.out.below hb)
            have HPX6 := Lib.hid (HPX5.out.below hb)
            clear hb HB5 HPX5 P5 C5 M5 R5 X5
            have HHS : Hid (hitB op d (rules.getD j noDRule) = (matchB rel.pat d && oh)) := by show _ = _; rw [← HRL.out]; exact HHT.out
            generalize someB rel.pat d = sb
            generalize matchB rel.pat d = mb at HHS
            cases mb
            case false =>
              have HDS : Hid (decTo rules op d (j + 1) = decTo rules op d j) := decr_skip HHS.out
              clear HHT HHS HRL HELS R6 X6 HPX6 HRR HDI HBG HCN2 HOP HRH
              as_aux_lemma =>
                go_wp2_with fail
                go_roundw
                case rel => exact ⟨j + 1, by omega, by go_num, by rw [HDS.out], HB6, P6, C6, by rw [HDS.out]; exact M6⟩
                case measure => simp [intOf]; omega
            have HHS2 : Hid (hitB op d (rules.getD j noDRule) = oh) := HHS.out
            have HCT := Lib.hid (HRH.out w6 HB6.out)
            have q0 := P6.out.cell 0 rfl
            have q1 := P6.out.cell 1 rfl
            have r5 := R6.out.cell 5 rfl
            clear HHS
            as_aux_lemma =>
              go_wp2_with fail
              refine HCT.out.mono ?_
              rintro e w7 ⟨rfl, hb⟩
              clear q0 q1 r5 HCT
              have HB7 := Lib.hid (ext_trans HB6.out hb)
              have P7 := Lib.hid (P6.out.below hb)
              have C7 := Lib.hid (C6.out.below hb)
              have M7 := Lib.hid (M6.out.below hb)
              have R7 := Lib.hid (R6.out.below hb)
              have X7 := Lib.hid (X6.out.below hb)
              have HPX7 := Lib.hid (HPX6.out.below hb)
              clear hb HB6 HPX6 P6 C6 M6 R6 X6
              cases oh
              case false =>
                have HDS : Hid (decTo rules op d (j + 1) = decTo rules op d j) := decr_skip HHS2.out
                clear HHT HHS2 HRL HELS R7 X7 HPX7 HRR HDI HBG HCN2 HOP HRH
                as_aux_lemma =>
                  go_wp2_with fail
                  go_roundw
                  case rel => exact ⟨j + 1, by omega, by go_num, by rw [HDS.out], HB7, P7, C7, by rw [HDS.out]; exact M7⟩
                  case measure => simp [intOf]; omega
              have HM7 := Lib.hid M7.out.at_
              obtain ⟨best, hbest⟩ : ∃ b, b = decTo rules op d j := ⟨_, rfl⟩
              rw [← hbest] at M7
              have HBS := Lib.hid hbest
              rw [← hbest]
              clear HM7
              cases best with
              | none =>
                have HDS : Hid (decTo rules op d (j + 1) = some j) := decr_first HHS2.out hbest.symm
                have hd9 : Below w7.heap.size w7 w7.drew := ext_drew (Below.refl _ _)
                have HBd := Lib.hid (ext_trans HB7.out hd9)
                have Pd := Lib.hid (P7.out.below hd9)
                have Cd := Lib.hid (C7.out.below hd9)
                have Md := Lib.hid (M7.out.below hd9)
                have Xd := Lib.hid (X7.out.below hd9)
                have HPXd := Lib.hid (HPX7.out.below hd9)
                clear hd9 hbest HHS2 HBS HB7 P7 C7 M7 X7 R7 HPX7
                as_aux_lemma =>
                  go_upto_region 10 with (fail)
                  refine region_seqI (S := fun W => Blk W X [.slice xa xn xc, .int .u8 rel.pat.tail] 82) [(true, 0), (true, 1), (true, 2), (false, 3)] (by kernel_rfl) (by kernel_rfl) rfl (by kernel_rfl) Xd.out ?_
                  generalize w7.drew = wd at HBd Pd Cd Md Xd HPXd ⊢
                  have HTH : Hid (wd.there M 0 2) := by
                    obtain ⟨ma, mn, mc, mt, BM, _⟩ := Md.out.at_
                    exact BM.th 2 (Nat.le_refl 2)
                  have HBe : Hid (Below w.heap.size w (wd.setCells M 0 [.slice xa xn xc, .int .u8 rel.pat.tail])) := below_at hne.2.2 HBd.out
                  have Pe : Hid (Blk (wd.setCells M 0 [.slice xa xn xc, .int .u8 rel.pat.tail]) P [.slice ca cn cc, .slice ha hn hcp] 29) := Pd.out.offS hne.1
                  have Ce : Hid (Blk (wd.setCells M 0 [.slice xa xn xc, .int .u8 rel.pat.tail]) C [.string ⟨key.toArray⟩, .slice (some ⟨b0, off, none⟩) rn rc, .slice ia inn ic] 58) := Cd.out.offS hne.2.1
                  have Xe : Hid (Blk (wd.setCells M 0 [.slice xa xn xc, .int .u8 rel.pat.tail]) X [.slice xa xn xc, .int .u8 rel.pat.tail] 82) := Xd.out.offS hXM
                  have Me : Hid (MostAt (wd.setCells M 0 [.slice xa xn xc, .int .u8 rel.pat.tail]) M rules (some j)) := by
                    have hq := HPXd.out
                    have hrl := HRL.out
                    have h1 : rel = (rules.getD j noDRule).els := by rw [← hrl]
                    rw [h1] at hq ⊢
                    exact most_put Md.out hq hxn
                  clear HBd Pd Cd Md HPXd
                  simp only [seqOps, List.getD_cons_zero, List.getD_cons_succ]
                  refine seqI_take (v := .int .i64 (j : Int)) rfl (fun W hW => by go_simp) (fun _ _ _ h => h) ?_
                  simp only [Act.put, List.setIfInBounds_toArray, List.set_cons_zero, List.set_cons_succ]
                  refine seqI_take (v := .agg #[.slice xa xn xc, .int .u8 rel.pat.tail]) rfl (fun W hW => by have q0 := hW.cell 0 rfl; have q1 := hW.cell 1 rfl; go_simp) (fun _ _ _ h => h) ?_
                  simp only [Act.put, List.setIfInBounds_toArray, List.set_cons_zero, List.set_cons_succ]
                  refine seqI_take (v := .int .i64 (j : Int)) rfl (fun W hW => by go_simp) (fun _ _ _ h => h) ?_
                  simp only [Act.put, List.setIfInBounds_toArray, List.set_cons_zero, List.set_cons_succ]
                  refine seqI_do rfl (wp_store_mid 82 (.tmp 10) (.tmp 56) rfl M 0 #[.slice xa xn xc, .int .u8 rel.pat.tail] rfl rfl HTH.out Tryz.dpatSz (by simp [Value.oneCell']) ⟨Xe.out, ?_⟩)
                  refine Hid.out ?_
                  generalize wd.setCells M 0 _ = we at HBe Pe Ce Xe Me ⊢
                  refine Lib.hid ?_
                  simp only [Act.put, List.setIfInBounds_toArray, List.set_cons_zero, List.set_cons_succ]
                  refine seqI_nil ?_
                  clear HTH Xe HHT HRL HELS HRR HDI HBG HCN2 HOP HRH
                  go_wp2_with fail
                  go_roundw
                  case rel => exact ⟨j + 1, by omega, by go_num, by rw [HDS.out]; rfl, HBe, Pe, Ce, by rw [HDS.out]; exact Me⟩
                  case measure => simp [intOf]; omega
              | some b =>
                obtain ⟨ma, mn, mc, mt, BM, hbb⟩ := M7.out.at_
                obtain ⟨rfl, hpb⟩ := hbb b rfl
                have hbn : b < rn := by have := (decTo_some hbest.symm).1; omega
                have hb0 : ¬ ((b : Int) < 0) := by omega
                have hopt : optI (some b) = (b : Int) := rfl
                have hbeok : ElsOk (rules.getD b noDRule).els := (HRR.out b hbn).1.els
                have HDL := Lib.hid (decr_less HHS2.out hbest.symm)
                have HRE : Hid ((rules.getD j noDRule).els = rel) := by show _ = _; rw [← HRL.out]
                rw [HRE.out] at HDL
                generalize (rules.getD b noDRule).els = be at hpb BM HDL hbeok
                have HBF := Lib.hid (before_any w7 rel be HELS.out hbeok xa xn xc ma mn mc HPX7.out hpb)
                have x0 := X7.out.cell 0 rfl
                have x1 := X7.out.cell 1 rfl
                generalize be.pat = bp at HBF BM hpb
                have m0 := BM.cell 0 rfl
                have m1 := BM.cell 1 rfl
                unfold patVal at HBF
                generalize befI rel be = bf at HBF HDL
                clear hpb BM hbb hbest HRE hbeok
                as_aux_lemma =>
                  go_wp2_with fail
                  refine HBF.out.mono ?_
                  rintro e w8 ⟨rfl, hb⟩
                  clear x0 x1 m0 m1 HBF
                  have HB8 := Lib.hid (ext_trans HB7.out hb)
                  have P8 := Lib.hid (P7.out.below hb)
                  have C8 := Lib.hid (C7.out.below hb)
                  have M8 := Lib.hid (M7.out.below hb)
                  have R8 := Lib.hid (R7.out.below hb)
                  have X8 := Lib.hid (X7.out.below hb)
                  have HPX8 := Lib.hid (HPX7.out.below hb)
                  clear hb HB7 HPX7 P7 C7 M7 R7 X7
                  by_cases hbf : bf < 0
                  · have HD2 : Hid (decTo rules op d (j + 1) = some j) := by show _ = _; rw [HDL.out, if_pos hbf]
                    clear HDL
                    have HDS : Hid (decTo rules op d (j + 1) = some j) := HD2.out
                    have hd9 : Below w8.heap.size w8 w8.drew := ext_drew (Below.refl _ _)
                    have HBd := Lib.hid (ext_trans HB8.out hd9)
                    have Pd := Lib.hid (P8.out.below hd9)
                    have Cd := Lib.hid (C8.out.below hd9)
                    have Md := Lib.hid (M8.out.below hd9)
                    have Xd := Lib.hid (X8.out.below hd9)
                    have HPXd := Lib.hid (HPX8.out.below hd9)
                    clear hd9 HB8 HD2 HHS2 HBS P8 C8 M8 X8 R8 HPX8
                    as_aux_lemma =>
                      go_upto_region 10 with (fail)
                      refine region_seqI (S := fun W => Blk W X [.slice xa xn xc, .int .u8 rel.pat.tail] 82) [(true, 0), (true, 1), (true, 2), (false, 3)] (by kernel_rfl) (by kernel_rfl) rfl (by kernel_rfl) Xd.out ?_
                      generalize w8.drew = wd at HBd Pd Cd Md Xd HPXd ⊢
                      have HTH : Hid (wd.there M 0 2) := by
                        obtain ⟨ma, mn, mc, mt, BM, _⟩ := Md.out.at_
                        exact BM.th 2 (Nat.le_refl 2)
                      have HBe : Hid (Below w.heap.size w (wd.setCells M 0 [.slice xa xn xc, .int .u8 rel.pat.tail])) := below_at hne.2.2 HBd.out
                      have Pe : Hid (Blk (wd.setCells M 0 [.slice xa xn xc, .int .u8 rel.pat.tail]) P [.slice ca cn cc, .slice ha hn hcp] 29) := Pd.out.offS hne.1
                      have Ce : Hid (Blk (wd.setCells M 0 [.slice xa xn xc, .int .u8 rel.pat.tail]) C [.string ⟨key.toArray⟩, .slice (some ⟨b0, off, none⟩) rn rc, .slice ia inn ic] 58) := Cd.out.offS hne.2.1
                      have Xe : Hid (Blk (wd.setCells M 0 [.slice xa xn xc, .int .u8 rel.pat.tail]) X [.slice xa xn xc, .int .u8 rel.pat.tail] 82) := Xd.out.offS hXM
                      have Me : Hid (MostAt (wd.setCells M 0 [.slice xa xn xc, .int .u8 rel.pat.tail]) M rules (some j)) := by
                        have hq := HPXd.out
                        have hrl := HRL.out
                        have h1 : rel = (rules.getD j noDRule).els := by rw [← hrl]
                        rw [h1] at hq ⊢
                        exact most_put Md.out hq hxn
                      clear HBd Pd Cd Md HPXd
                      simp only [seqOps, List.getD_cons_zero, List.getD_cons_succ]
                      refine seqI_take (v := .int .i64 (j : Int)) rfl (fun W hW => by go_simp) (fun _ _ _ h => h) ?_
                      simp only [Act.put, List.setIfInBounds_toArray, List.set_cons_zero, List.set_cons_succ]
                      refine seqI_take (v := .agg #[.slice xa xn xc, .int .u8 rel.pat.tail]) rfl (fun W hW => by have q0 := hW.cell 0 rfl; have q1 := hW.cell 1 rfl; go_simp) (fun _ _ _ h => h) ?_
                      simp only [Act.put, List.setIfInBounds_toArray, List.set_cons_zero, List.set_cons_succ]
                      refine seqI_take (v := .int .i64 (j : Int)) rfl (fun W hW => by go_simp) (fun _ _ _ h => h) ?_
                      simp only [Act.put, List.setIfInBounds_toArray, List.set_cons_zero, List.set_cons_succ]
                      refine seqI_do rfl (wp_store_mid 82 (.tmp 10) (.tmp 56) rfl M 0 #[.slice xa xn xc, .int .u8 rel.pat.tail] rfl rfl HTH.out Tryz.dpatSz (by simp [Value.oneCell']) ⟨Xe.out, ?_⟩)
                      refine Hid.out ?_
                      generalize wd.setCells M 0 _ = we at HBe Pe Ce Xe Me ⊢
                      refine Lib.hid ?_
                      simp only [Act.put, List.setIfInBounds_toArray, List.set_cons_zero, List.set_cons_succ]
                      refine seqI_nil ?_
                      clear HTH Xe HHT HRL HELS HRR HDI HBG HCN2 HOP HRH
                      go_wp2_with fail
                      go_roundw
                      case rel => exact ⟨j + 1, by omega, by go_num, by rw [HDS.out]; rfl, HBe, Pe, Ce, by rw [HDS.out]; exact Me⟩
                      case measure => simp [intOf]; omega
                  · have HD2 : Hid (decTo rules op d (j + 1) = some b) := by show _ = _; rw [HDL.out, if_neg hbf]
                    clear HDL
                    have HDS : Hid (decTo rules op d (j + 1) = decTo rules op d j) := by show _ = _; rw [HD2.out, HBS.out]
                    clear HHT HHS2 HRL HELS R8 X8 HPX8 HRR HDI HBG HCN2 HOP HRH
                    as_aux_lemma =>
                      go_wp2_with fail
                      go_roundw
                      case rel => exact ⟨j + 1, by omega, by go_num, by rw [HDS.out, ← HBS.out]; rfl, HB8, P8, C8, by rw [HDS.out, ← HBS.out]; exact M8⟩
                      case measure => simp [intOf]; omega
end Go.Proofs.YtamlhapiehchoaaGreatDoor

set_option linter.unusedVariables false
set_option linter.unusedSimpArgs false
namespace Go.Proofs.YtamlhapiehchoaaGreatDoor
open Go.RowKit

def noPat : Pat := ⟨[], 0⟩
/-- The others that still can match, behind one more sign. -/
def clrTo (l : List Pat) (t i a : Nat) : Nat → Nat
  | 0 => a
  | k + 1 => if ((l.getD k noPat).at_ t).testBit i then clrTo l t i a k else clrTo l t i a k &&& (4095 - 2 ^ k)
theorem clr_bit : ∀ k, k < 12 → ∀ j, j < 12 → (4095 - 2 ^ k).testBit j = decide (j ≠ k) := by decide
theorem clrTo_lt {l : List Pat} {t i a : Nat} (h : a < 4096) : ∀ k, clrTo l t i a k < 4096
  | 0 => h
  | k + 1 => by
    unfold clrTo
    split
    · exact clrTo_lt h k
    · exact Nat.lt_of_le_of_lt Nat.and_le_left (clrTo_lt h k)
theorem clrTo_bit {l : List Pat} {t i a : Nat} (j : Nat) (hj : j < 12) : ∀ k, k ≤ 12 → (clrTo l t i a k).testBit j = (a.testBit j && (decide (k ≤ j) || ((l.getD j noPat).at_ t).testBit i))
  | 0, _ => by simp [clrTo]
  | k + 1, hk => by
    have ih := clrTo_bit (l := l) (t := t) (i := i) (a := a) j hj k (by omega)
    unfold clrTo
    by_cases hb : ((l.getD k noPat).at_ t).testBit i = true
    · rw [if_pos hb, ih]
      by_cases hjk : j = k
      · subst hjk
        rw [hb]
        simp
      · have : decide (k + 1 ≤ j) = decide (k ≤ j) := by rw [decide_eq_decide]; omega
        rw [this]
    · rw [if_neg hb, Nat.testBit_and, ih, clr_bit k (by omega) j hj]
      by_cases hjk : j = k
      · subst hjk
        have hb' : ((l.getD j noPat).at_ t).testBit i = false := by simpa using hb
        rw [hb']
        simp
      · have : decide (k + 1 ≤ j) = decide (k ≤ j) := by rw [decide_eq_decide]; omega
        rw [this]
        simp [hjk]
/-- The others that can match the first m signs of d. -/
def alD (l : List Pat) (d : List Nat) : Nat → Nat
  | 0 => 2 ^ l.length - 1
  | m + 1 => clrTo l m (d.getD m 0) (alD l d m) l.length
theorem alD_bit {l : List Pat} (hl : l.length ≤ 12) (d : List Nat) (j : Nat) (hj : j < l.length) : ∀ m, (alD l d m).testBit j = true → ∀ i, i < m → ((l.getD j noPat).at_ i).testBit (d.getD i 0) = true
  | m + 1, h, i, hi => by
    unfold alD at h
    rw [clrTo_bit j (by omega) l.length hl, Bool.and_eq_true] at h
    obtain ⟨h1, h2⟩ := h
    rw [decide_eq_false (by omega), Bool.false_or] at h2
    by_cases him : i = m
    · subst him; exact h2
    · exact alD_bit hl d j hj m h1 i (by omega)
/-- A state of which all is well: where the pattern ends one of the others does; what comes behind it was met. -/
def CovDone (p : Pat) (l : List Pat) (S : Nat × Nat → Prop) (s : Nat × Nat) : Prop :=
  (p.fin s.1 = true → 0 < s.1 → ∃ j, j < l.length ∧ s.2.testBit j = true ∧ (l.getD j noPat).fin s.1 = true) ∧
  (s.1 ≠ 30 → ∀ i, i < 12 → (p.at_ s.1).testBit i = true → S (s.1 + 1, clrTo l s.1 i s.2 l.length))
theorem CovDone.mono {p : Pat} {l : List Pat} {S T : Nat × Nat → Prop} {s : Nat × Nat} (h : CovDone p l S s) (hst : ∀ x, S x → T x) : CovDone p l T s := ⟨h.1, fun h1 i hi hb => hst _ (h.2 h1 i hi hb)⟩
/-- Each string that p matches is matched by one of some others. -/
def CovP (p : Pat) (l : List Pat) : Prop := ∀ d : List Nat, (∀ j, j < d.length → d.getD j 0 < 12) → 1 ≤ d.length → d.length ≤ 30 → matchB p d = true → ∃ q ∈ l, matchB q d = true
theorem cov_end {p : Pat} {l : List Pat} (hl : l.length ≤ 12) {S : Nat × Nat → Prop} (h0 : S (0, 2 ^ l.length - 1)) (h : ∀ s, S s → CovDone p l S s) : CovP p l := by
  intro d hd h1 h2 hm
  rw [matchB_iff] at hm
  obtain ⟨h3, h4⟩ := hm
  have hs : ∀ m, m ≤ d.length → S (m, alD l d m) := by
    intro m
    induction m with
    | zero => intro _; exact h0
    | succ m ih =>
      intro hm
      exact (h _ (ih (by omega))).2 (by show m ≠ 30; omega) (d.getD m 0) (hd m (by omega)) (h3 m (by omega))
  obtain ⟨j, hj, hb, hf⟩ := (h _ (hs d.length (Nat.le_refl _))).1 h4 (by show 0 < d.length; omega)
  refine ⟨l.getD j noPat, ?_, matchB_iff.2 ⟨alD_bit hl d j hj d.length hb, hf⟩⟩
  rw [List.getD_eq_getElem?_getD, List.getElem?_eq_getElem hj]
  exact List.getElem_mem hj
/-- No list without doubles is longer than the numbers that can stand in it. -/
theorem few_nat : ∀ (m : Nat) (l : List Nat), l.Nodup → (∀ x ∈ l, x < m) → l.length ≤ m
  | 0, l, _, h => by
    cases l with
    | nil => simp
    | cons x l => exact absurd (h x List.mem_cons_self) (by omega)
  | m + 1, l, hn, h => by
    have h1 := few_nat m (l.erase m) (hn.erase m) (fun x hx => by
      have h2 := h x (List.mem_of_mem_erase hx)
      have h3 : x ≠ m := fun e => by subst e; exact (List.Nodup.not_mem_erase hn) hx
      omega)
    have := List.length_erase_of_mem (l := l) (a := m)
    by_cases hm : m ∈ l
    · have := this hm
      omega
    · rw [List.erase_of_not_mem hm] at h1
      omega
/-- The states are few. -/
theorem few_states (Q : List (Nat × Nat)) (hn : Q.Nodup) (h : ∀ s ∈ Q, s.1 ≤ 30 ∧ s.2 < 4096) : Q.length ≤ 126976 := by
  have h1 := few_nat 126976 (Q.map fun s => s.1 * 4096 + s.2) (by
    rw [List.nodup_iff_pairwise_ne] at hn ⊢
    rw [List.pairwise_map]
    refine List.Pairwise.imp_of_mem ?_ hn
    intro a b ha hb hne e
    have h1 := h a ha
    have h2 := h b hb
    apply hne
    have e1 : a.1 = b.1 := by omega
    have e2 : a.2 = b.2 := by omega
    exact Prod.ext e1 e2) (fun x hx => by
    obtain ⟨s, hs, rfl⟩ := List.mem_map.1 hx
    have := h s hs
    omega)
  simpa using h1
end Go.Proofs.YtamlhapiehchoaaGreatDoor

set_option linter.unusedVariables false
set_option linter.unusedSimpArgs false
namespace Go.Proofs.YtamlhapiehchoaaGreatDoor
open Go.RowKit

theorem u64_shift (m i : Nat) (hm : m < 4096) (hi : i < 12) : bits BinOp.and IntKind.u64 ((m : Int) / 2 ^ i) 1 = if m.testBit i then 1 else 0 := by
  have e2 : ((m / 2 ^ i : Nat) : Int) = (m : Int) / 2 ^ i := by simp
  have hle : m / 2 ^ i ≤ m := Nat.div_le_self _ _
  rw [← e2]
  show IntKind.u64.wrap (((BitVec.ofInt 64 ((m / 2 ^ i : Nat) : Int) &&& BitVec.ofInt 64 ((1 : Nat) : Int)).toNat : Nat) : Int) = _
  rw [BitVec.toNat_and, BitVec.ofInt_natCast, BitVec.ofInt_natCast, BitVec.toNat_ofNat, BitVec.toNat_ofNat, Nat.mod_eq_of_lt (by omega), Nat.mod_eq_of_lt (by omega), IntKind.wrap_u64, Nat.and_one_is_mod]
  have e : (m / 2 ^ i) % 2 = if m.testBit i then 1 else 0 := by
    have : m.testBit i = decide (m / 2 ^ i % 2 = 1) := Nat.testBit_eq_decide_div_mod_eq
    rw [this]
    by_cases h : m / 2 ^ i % 2 = 1
    · rw [h]; simp
    · rw [decide_eq_false h]
      simp
      omega
  rw [e]
  split <;> omega
theorem clr_and (m k : Nat) (hm : m < 4096) (hk : k < 12) : m &&& (2 ^ 64 - 1 - 2 ^ k) = m &&& (4095 - 2 ^ k) := by
  have hpow : 2 ^ k < 4096 := Nat.pow_lt_pow_right (a := 2) (by omega) (show k < 12 from hk)
  apply Nat.eq_of_testBit_eq
  intro j
  rw [Nat.testBit_and, Nat.testBit_and]
  by_cases hj : j < 12
  · rw [clr_bit k hk j hj, show 2 ^ 64 - 1 - 2 ^ k = 2 ^ 64 - (2 ^ k + 1) by omega, Nat.testBit_two_pow_sub_succ (by omega), Nat.testBit_two_pow]
    by_cases hjk : j = k
    · subst hjk; simp
    · have : ¬ k = j := fun e => hjk e.symm
      simp [hjk, this, show j < 64 by omega]
  · have : m.testBit j = false := Nat.testBit_lt_two_pow (Nat.lt_of_lt_of_le hm (Nat.pow_le_pow_right (n := 2) (by omega) (show 12 ≤ j by omega)))
    rw [this]
    simp
theorem u64_clr (m k : Nat) (hm : m < 4096) (hk : k < 12) : bits BinOp.andNot IntKind.u64 (m : Int) ((2 ^ k : Nat) : Int) = ((m &&& (4095 - 2 ^ k) : Nat) : Int) := by
  have hpow : 2 ^ k < 4096 := Nat.pow_lt_pow_right (a := 2) (by omega) (show k < 12 from hk)
  have hle : m &&& (4095 - 2 ^ k) ≤ m := Nat.and_le_left
  show IntKind.u64.wrap (((BitVec.ofInt 64 m &&& ~~~ (BitVec.ofInt 64 ((2 ^ k : Nat) : Int))).toNat : Nat) : Int) = _
  rw [BitVec.toNat_and, BitVec.toNat_not, BitVec.ofInt_natCast, BitVec.ofInt_natCast, BitVec.toNat_ofNat, BitVec.toNat_ofNat, Nat.mod_eq_of_lt (by omega), Nat.mod_eq_of_lt (by omega), clr_and m k hm hk, IntKind.wrap_u64]
  generalize m &&& (4095 - 2 ^ k) = z at *
  omega
/-- Patterns in a slice. -/
structure PatsV (w : World) (a : Option Addr) (n : Nat) (l : List PatV) : Prop where
  len : n = l.length
  row : n = 0 ∨ ∃ q, a = some ⟨q, 0, none⟩ ∧ PatsAt w q l
theorem PatsV.below {w w' : World} {a : Option Addr} {n : Nat} {l : List PatV} (h : PatsV w a n l) (hb : Below w.heap.size w w') : PatsV w' a n l :=
  ⟨h.len, h.row.imp id fun ⟨q, h1, h2⟩ => ⟨q, h1, h2.below hb⟩⟩
theorem patsOf_get (l : List PatV) (j : Nat) (hj : j < l.length) : (patsOf l).getD j noPat = (l.getD j noPatV).p := by
  unfold patsOf
  rw [List.getD_eq_getElem?_getD, List.getElem?_map, List.getElem?_eq_getElem hj, List.getD_eq_getElem?_getD, List.getElem?_eq_getElem hj]
  rfl
def EndsPost (l : List Pat) (a t : Nat) (w : World) (e : Ending) (w' : World) : Prop := ∃ b : Bool, e = .returned (.bool b) ∧ (b = true → ∃ j, j < l.length ∧ a.testBit j = true ∧ (l.getD j noPat).fin t = true) ∧ Below w.heap.size w w'
set_option maxRecDepth 100000 in
set_option maxHeartbeats 4000000 in
theorem ends_any (w : World) (av : Option Addr) (n c : Nat) (l : List PatV) (h : PatsV w av n l) (hl : n ≤ 12) (a t : Nat) (ha : a < 4096) (ht : t ≤ 30) :
    Calls Tryz.prog 90 #[.slice av n c, .int .u64 a, .int .i64 t] w (EndsPost (patsOf l) a t w) := by
  have HP := Lib.hid h
  have HLN := Lib.hid h.len
  clear h
  go_enter Tryz.func90, Tryz.ntmps90
  go_wp2_with fail
  go_loopw [13] (fun it wr => ∃ i : Nat, i ≤ n ∧ it = .int .i64 i ∧ Hid (Below w.heap.size w wr)) (fun it _ => n - (intOf it).toNat)
  case atStart => exact ⟨0, Nat.zero_le _, rfl, Below.refl _ _⟩
  case round =>
    obtain ⟨i, hil, rfl, HB⟩ := hrel
    by_cases hli : i < n
    · have HPw := Lib.hid (HP.out.below HB.out)
      rcases HPw.out.row with h0 | ⟨q, rfl, HQ⟩
      · omega
      have hll : i < l.length := by rw [← HLN.out]; exact hli
      have g0 := HQ.c0 i hll
      have g1 := HQ.c1 i hll
      have hqz := HQ.lt
      obtain ⟨hpa, hpok⟩ := HQ.each i hll
      have HPA := Lib.hid hpa
      have HPO := Lib.hid hpok
      have HPE := Lib.hid (patsOf_get l i hll)
      have HLL : Hid (i < (patsOf l).length) := by show i < _; rw [patsOf_len]; exact hll
      clear hpa hpok HQ HPw hll
      generalize l.getD i noPatV = pv at g0 g1 HPA HPO HPE
      obtain ⟨pa, pn, pc, pp⟩ := pv
      simp only at g0 g1
      as_aux_lemma =>
        go_wp2_with fail
        refine (takes_any _ pa pn pc pp (HPA.out.below (ext_alloc (Below.refl _ _))) HPO.out t (by omega)).mono ?_
        rintro e w1 ⟨rfl, hb1⟩
        have HB1 := Lib.hid (ext_trans HB.out (ext_trans (ext_alloc (Below.refl _ wr)) hb1))
        have HFE : Hid (((patsOf l).getD i noPat).fin t = pp.fin t) := by show _ = _; rw [HPE.out]
        clear hb1 g0 g1 HPA HPO HPE
        generalize pp.at_ t = M
        generalize pp.fin t = fe at HFE
        cases fe
        · skip
          as_aux_lemma =>
            go_wp2_with fail
            go_roundw
            case rel => exact ⟨i + 1, by omega, by go_num, HB1⟩
            case measure => simp [intOf]; omega
        · have hsh := u64_shift a i ha (by omega)
          cases htb : a.testBit i
          · rw [htb] at hsh
            simp only [Bool.false_eq_true, if_false] at hsh
            clear htb
            as_aux_lemma =>
              go_wp2_with fail
              go_roundw
              case rel => exact ⟨i + 1, by omega, by go_num, HB1⟩
              case measure => simp [intOf]; omega
          · rw [htb, if_pos rfl] at hsh
            have HT := Lib.hid htb
            clear htb
            as_aux_lemma =>
              go_wp2_with fail
              go_ret
              exact ⟨true, rfl, fun _ => ⟨i, HLL.out, HT.out, HFE.out⟩, HB1.out⟩
    · skip
      as_aux_lemma =>
        go_wp2_with fail
        go_ret
        exact ⟨false, rfl, ⟨(fun h => absurd h (by decide)), HB.out⟩⟩
end Go.Proofs.YtamlhapiehchoaaGreatDoor
