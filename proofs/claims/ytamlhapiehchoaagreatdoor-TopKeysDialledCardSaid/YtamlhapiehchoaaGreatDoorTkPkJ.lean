/- What is proved here: lemmas and contracts for the statement, put together out of smaller texts (DplHit, DplNo, Infos, Within, ReadyQ, ReadyV, Tariff, ClassOf, Price). No condition beyond those stated. -/
import Derived.Test.YtamlhapiehchoaaGreatDoorTkPkI
import Derived.Test.YtamlhapiehchoaaGreatDoorTkPkB
import Derived.Test.YtamlhapiehchoaaGreatDoorTkPkC
import Derived.Test.YtamlhapiehchoaaGreatDoorTkPkA
import Derived.Test.YtamlhapiehchoaaGreatDoorTkPkE
import Derived.LoopN
import Derived.Deep.RegionWith
import Derived.StillTailTactics
set_option linter.unusedVariables false
set_option linter.unusedSimpArgs false
namespace Go.Proofs.YtamlhapiehchoaaGreatDoor
open Go.RowKit Go.Lib

theorem wp_valD {P : Program} {o : Oper} {a : Act} {w w' : World} {v : Value} {K : Act → World → Prop} {Q : Exit → Act → World → Prop} (h : (execOp a.eval o).run P w = .ok (.value v) w') (hK : K (a.put o.dst v) w') : Oper.wp P o a w K Q := by
  unfold Oper.wp; rw [h]; exact hK
theorem Tryz.hitSz : (Tryz.prog.info? 37).map (·.size) = some 5 := by kernel_rfl
def zeroHit : List Value := [.string ⟨#[]⟩, .int .i64 0, .int .i64 0, .string ⟨#[]⟩, .string ⟨#[]⟩]
def hitC (cs : List DCtx) (d : List Nat) (k i : Nat) : List Value := [.string ⟨(cs.getD k noDCtx).key.toArray⟩, .int .i64 i, .int .i64 ((cs.getD k noDCtx).rules.getD i noDRule).to_, .string ⟨((cs.getD k noDCtx).rules.getD i noDRule).name.toArray⟩, .string ⟨(dialV ((cs.getD k noDCtx).rules.getD i noDRule) d).toArray⟩]
def hitV (cs : List DCtx) (op : DRule → Bool) (d : List Nat) (l : List Nat) : List Value := match decAll cs op d l with
  | none => zeroHit
  | some (k, i) => if hitErr ((cs.getD k noDCtx).rules.getD i noDRule) d = 0 then hitC cs d k i else zeroHit
def HitPost (v : List Value) (E : Int) (w : World) (e : Ending) (w' : World) : Prop := e = .returned (.tuple #[.agg v.toArray, .int .i64 E]) ∧ Below w.heap.size w w'
theorem dec_all_none {cs : List DCtx} {op : DRule → Bool} {d : List Nat} : ∀ {l : List Nat}, (∀ m, m < l.length → decIn (cs.getD (l.getD m 0) noDCtx).rules op d = none) → decAll cs op d l = none
  | [], _ => rfl
  | k :: l, h => by
    have h0 : decIn (cs.getD k noDCtx).rules op d = none := h 0 (by simp)
    unfold decAll
    rw [h0]
    exact dec_all_none fun m hm => h (m + 1) (by simpa using hm)
theorem dec_all_at {cs : List DCtx} {op : DRule → Bool} {d : List Nat} {i : Nat} : ∀ {l : List Nat} {q : Nat}, q < l.length → (∀ m, m < q → decIn (cs.getD (l.getD m 0) noDCtx).rules op d = none) → decIn (cs.getD (l.getD q 0) noDCtx).rules op d = some i → decAll cs op d l = some (l.getD q 0, i)
  | k :: l, 0, _, _, h => by
    have h0 : decIn (cs.getD k noDCtx).rules op d = some i := h
    unfold decAll
    rw [h0]
    rfl
  | k :: l, q + 1, hq, hn, h => by
    have h0 : decIn (cs.getD k noDCtx).rules op d = none := hn 0 (by omega)
    unfold decAll
    rw [h0]
    exact dec_all_at (q := q) (by simpa using hq) (fun m hm => hn (m + 1) (by omega)) h
theorem cat_bytes (a b : List UInt8) : ((⟨a.toArray⟩ : ByteArray) ++ (⟨b.toArray⟩ : ByteArray)) = ⟨(a ++ b).toArray⟩ := by
  apply ByteArray.ext
  simp
theorem dial_bytes (r : DRule) (d : List Nat) : ((⟨r.pre.toArray⟩ : ByteArray) ++ (⟨(d.map signN).toArray⟩ : ByteArray).extract (min r.strip d.length) d.length) = ⟨(dialV r d).toArray⟩ := by
  have h := extract_drop (d.map signN) (min r.strip d.length)
  rw [List.length_map] at h
  rw [h, cat_bytes]
  rfl
set_option maxRecDepth 100000 in
set_option maxHeartbeats 8000000 in
theorem decide_any (w : World) (p : DPlan) (hp : DPlanFine w p) (i : Nat) (hi : i < 3) (d : List Nat) (hd : ∀ j, j < d.length → d.getD j 0 < 12) (hd1 : 1 ≤ d.length) (hdl : d.length ≤ 30) (at_ : Int) (hat : isMomB at_ = true) (a0 : 0 ≤ at_) (a1 : at_ ≤ 345686400000) :
    Calls Tryz.prog 10 #[.agg p.cells.toArray, .string ⟨(ctxKey i).toArray⟩, .string ⟨(d.map signN).toArray⟩, .int .i64 at_] w (HitPost (hitV p.ctxs (opR p at_) d (ordP p i)) (decErr p.ctxs (opR p at_) d (ordP p i)) w) := by
  have HAS := Lib.hid (fun W (hW : Below w.heap.size w W) => ask_any W p (hp.below hW) i hi d hd hd1 hdl at_ hat)
  have HDC := Lib.hid (fun k (hk : k < 3) W (hW : Below w.heap.size w W) => decides_any W p (hp.below hW) k hk d hd hdl at_ a0 a1)
  have HRR : Hid (∀ k : Nat, k < 3 → ∀ j, j < (p.ctxs.getD k noDCtx).rules.length → j < (p.ctxs.getD k noDCtx).rn ∧ DRuleOk ((p.ctxs.getD k noDCtx).rules.getD j noDRule) ∧ ∃ b off, (p.ctxs.getD k noDCtx).ra = some ⟨b, off, none⟩ ∧ ∀ W, Below w.heap.size w W → W.rangeAt b (off + j * 6) (((p.ctxs.getD k noDCtx).rules.getD j noDRule).cells)) := fun k hk j hj => by
    have hr := (hp.each k hk).rules
    have hl := hr.len
    obtain ⟨b, off, e, hbl, hcl⟩ := hr.at (by omega)
    obtain ⟨q0, q1, q2, q3, q4, q5⟩ := hcl j (by omega)
    exact ⟨by omega, hr.each j hj, b, off, e, fun W hW => rule_range ((hW.cell (p := ⟨b, off + j * 6, none⟩) hbl).trans q0) ((hW.cell (p := ⟨b, off + j * 6 + 1, none⟩) hbl).trans q1) ((hW.cell (p := ⟨b, off + j * 6 + 2, none⟩) hbl).trans q2) ((hW.cell (p := ⟨b, off + j * 6 + 3, none⟩) hbl).trans q3) ((hW.cell (p := ⟨b, off + j * 6 + 4, none⟩) hbl).trans q4) ((hW.cell (p := ⟨b, off + j * 6 + 5, none⟩) hbl).trans q5)⟩
  have HFE : Hid (∀ k : Nat, k < 3 → (p.ctxs.getD k noDCtx).rn ≤ 10) := fun k hk => (hp.each k hk).rules.few
  have HL3 : Hid (∀ x ∈ ordP p i, x < 3) := (ordP_ok hp hi).1
  have hl7 := (ordP_ok hp hi).2
  clear hp hd hd1 hat a0 a1
  unfold CtxsPost at HAS
  generalize hop : opR p at_ = op at HDC ⊢
  clear hop
  have HCR : Hid (∀ (w : World) (base : Nat) (v : Value), w.ownsRow base 58 3 v (ordP p i).length (ctxRow p (ordP p i)) → _) := fun w base v h => ctx_row h
  generalize ctxRow p (ordP p i) = cr at HAS HCR
  generalize ordP p i = l at HAS HL3 hl7 HCR ⊢
  obtain ⟨ca, cn, cc, ctxs, ha, hn, hcp, hrs⟩ := p
  simp only at HDC HRR HFE HCR ⊢
  have HAS2 : Hid (∀ W, Below w.heap.size w W → Calls Tryz.prog 32 #[.agg #[.slice ca cn cc, .slice ha hn hcp], .string ⟨(ctxKey i).toArray⟩, .string ⟨(d.map signN).toArray⟩, .int .i64 at_] W fun e w' => ∃ v, e = .returned (.tuple #[v, .int .i64 0]) ∧ w'.ownsRow W.heap.size 58 3 v l.length cr ∧ Below W.heap.size W w') := HAS.out
  have HDC2 : Hid (∀ k : Nat, k < 3 → ∀ W, Below w.heap.size w W → Calls Tryz.prog 33 #[.agg #[.slice ca cn cc, .slice ha hn hcp], .agg (ctxs.getD k noDCtx).cells.toArray, .string ⟨(d.map signN).toArray⟩, .int .i64 at_] W (IntP (optI (decIn (ctxs.getD k noDCtx).rules op d)) W)) := HDC.out
  clear HAS HDC
  have HDV := Lib.hid (fun r => dial_bytes r d)
  have hsz : (⟨(d.map signN).toArray⟩ : ByteArray).size = d.length := by show (d.map signN).toArray.size = _; simp
  generalize (⟨(d.map signN).toArray⟩ : ByteArray) = ds at HAS2 HDC2 HDV hsz ⊢
  generalize ctxKey i = ki at HAS2 ⊢
  have HNO : Hid ((∀ m, m < l.length → decIn (ctxs.getD (l.getD m 0) noDCtx).rules op d = none) → hitV ctxs op d l = zeroHit ∧ decErr ctxs op d l = 8) := fun h => by unfold hitV decErr; rw [dec_all_none h]; exact ⟨rfl, rfl⟩
  have HYE : Hid (∀ q ix, q < l.length → (∀ m, m < q → decIn (ctxs.getD (l.getD m 0) noDCtx).rules op d = none) → decIn (ctxs.getD (l.getD q 0) noDCtx).rules op d = some ix → hitV ctxs op d l = (if hitErr ((ctxs.getD (l.getD q 0) noDCtx).rules.getD ix noDRule) d = 0 then hitC ctxs d (l.getD q 0) ix else zeroHit) ∧ decErr ctxs op d l = hitErr ((ctxs.getD (l.getD q 0) noDCtx).rules.getD ix noDRule) d) := fun q ix hq hn h => by unfold hitV decErr; rw [dec_all_at hq hn h]; exact ⟨rfl, rfl⟩
  generalize hitV ctxs op d l = RV at HNO HYE ⊢
  generalize decErr ctxs op d l = RE at HNO HYE ⊢
  show Calls Tryz.prog 10 #[.agg #[.slice ca cn cc, .slice ha hn hcp], .string ⟨ki.toArray⟩, .string ds, .int .i64 at_] w (HitPost RV RE w)
  have P1 : Hid (Blk ((w.alloc (.cells #[.slice ca cn cc, .slice ha hn hcp] 29)).alloc (.cells #[.string ⟨#[]⟩, .int .i64 0, .int .i64 0, .string ⟨#[]⟩, .string ⟨#[]⟩] 37)) w.heap.size [.slice ca cn cc, .slice ha hn hcp] 29) := (Blk.new w _ _).alloc _
  have Z1 : Hid (Blk ((w.alloc (.cells #[.slice ca cn cc, .slice ha hn hcp] 29)).alloc (.cells #[.string ⟨#[]⟩, .int .i64 0, .int .i64 0, .string ⟨#[]⟩, .string ⟨#[]⟩] 37)) (w.heap.size + 1) [.string ⟨#[]⟩, .int .i64 0, .int .i64 0, .string ⟨#[]⟩, .string ⟨#[]⟩] 37) := by
    have := Blk.new (w.alloc (.cells #[.slice ca cn cc, .slice ha hn hcp] 29)) [.string ⟨#[]⟩, .int .i64 0, .int .i64 0, .string ⟨#[]⟩, .string ⟨#[]⟩] 37
    rw [show (w.alloc (.cells #[.slice ca cn cc, .slice ha hn hcp] 29)).heap.size = w.heap.size + 1 by simp] at this
    exact this
  have HB1 : Hid (Below w.heap.size w ((w.alloc (.cells #[.slice ca cn cc, .slice ha hn hcp] 29)).alloc (.cells #[.string ⟨#[]⟩, .int .i64 0, .int .i64 0, .string ⟨#[]⟩, .string ⟨#[]⟩] 37))) := ext_alloc (ext_alloc (Below.refl _ _))
  go_enter Tryz.func10, Tryz.ntmps10
  go_upto_region 1 with (fail)
  generalize ((w.alloc (.cells #[.slice ca cn cc, .slice ha hn hcp] 29)).alloc (.cells #[.string ⟨#[]⟩, .int .i64 0, .int .i64 0, .string ⟨#[]⟩, .string ⟨#[]⟩] 37)) = w1 at P1 Z1 HB1 ⊢
  obtain ⟨Z, hZ⟩ : ∃ Z, Z = w.heap.size + 1 := ⟨_, rfl⟩
  rw [← hZ] at Z1
  simp only [← hZ]
  have hZw : w.heap.size ≤ Z := by omega
  generalize w.heap.size = P at P1 ⊢
  clear hZ
  have p0 := P1.out.cell 0 rfl
  have p1 := P1.out.cell 1 rfl
  as_aux_lemma =>
    go_wp2_with fail
    refine (HAS2.out _ HB1.out).mono ?_
    rintro e w2 ⟨v, rfl, ho, hb⟩
    have HB2 := Lib.hid (ext_trans HB1.out hb)
    have P2 := Lib.hid (P1.out.below hb)
    have Z2 := Lib.hid (Z1.out.below hb)
    have hcr := HCR.out w2 _ v ho
    obtain ⟨va, vc, rfl, hrow⟩ : ∃ va vc, v = .slice va l.length vc ∧ (0 < l.length → ∃ g, va = some ⟨g, 0, none⟩ ∧ ∀ q, q < l.length → ∀ W, Below w2.heap.size w2 W → W.cell? ⟨g, q * 3, none⟩ = some (.string ⟨(ctxs.getD (l.getD q 0) noDCtx).key.toArray⟩) ∧ W.cell? ⟨g, q * 3 + 1, none⟩ = some (.slice (ctxs.getD (l.getD q 0) noDCtx).ra (ctxs.getD (l.getD q 0) noDCtx).rn (ctxs.getD (l.getD q 0) noDCtx).rc) ∧ W.cell? ⟨g, q * 3 + 2, none⟩ = some (.slice (ctxs.getD (l.getD q 0) noDCtx).ia (ctxs.getD (l.getD q 0) noDCtx).inn (ctxs.getD (l.getD q 0) noDCtx).ic)) := by
      rcases hcr with ⟨h0, rfl⟩ | ⟨g, c, rfl, h⟩
      · exact ⟨none, 0, by rw [h0]; rfl, fun h => by rw [h0] at h; cases h⟩
      · exact ⟨_, c, rfl, fun _ => ⟨g, rfl, h⟩⟩
    have HROW := Lib.hid hrow
    clear ho hb HB1 P1 Z1 p0 p1 HAS2 HCR hcr hrow
    as_aux_lemma =>
      go_wp2_with fail
      go_loopw [31] (fun it wr => ∃ q : Nat, q ≤ l.length ∧ it = .int .i64 q ∧ Hid (∀ m, m < q → decIn (ctxs.getD (l.getD m 0) noDCtx).rules op d = none) ∧ Hid (Below w2.heap.size w2 wr)) (fun it _ => l.length - (intOf it).toNat)
      case atStart => exact ⟨0, Nat.zero_le _, rfl, (fun m hm => by omega), Below.refl _ _⟩
      case round =>
        obtain ⟨q, hq, rfl, HN, HQ⟩ := hrel
        by_cases hlq : q < l.length
        case neg =>
          have hqn : ¬ (q : Int) < (l.length : Int) := by omega
          obtain ⟨hv, he⟩ := HNO.out (fun m hm => HN.out m (by omega))
          have Z3 := Lib.hid (Z2.out.below HQ.out)
          have HTH : Hid (wr.there Z 0 5) := Z3.out.th 5 (Nat.le_refl 5)
          have Z4 : Hid (Blk (wr.setCells Z 0 [.string ⟨#[]⟩, .int .i64 0, .int .i64 0, .string ⟨#[]⟩, .string ⟨#[]⟩]) Z [.string ⟨#[]⟩, .int .i64 0, .int .i64 0, .string ⟨#[]⟩, .string ⟨#[]⟩] 37) := ((((Z3.out.put 0 _).put 1 _).put 2 _).put 3 _).put 4 _
          have HF : Hid (HitPost RV RE w (.returned (.tuple #[.agg #[.string ⟨#[]⟩, .int .i64 0, .int .i64 0, .string ⟨#[]⟩, .string ⟨#[]⟩], .int .i64 8])) (wr.setCells Z 0 [.string ⟨#[]⟩, .int .i64 0, .int .i64 0, .string ⟨#[]⟩, .string ⟨#[]⟩])) := by
            rw [hv, he]
            exact ⟨rfl, (ext_trans HB2.out HQ.out).trans (below_setCellsD hZw _ _ _)⟩
          clear hv he HROW HNO HYE HN HQ HB2 P2 Z2 Z3 HRR HFE HL3 HDC2 HDV
          as_aux_lemma =>
            go_wp2_with (refine wpList_store_mid rfl 37 (.tmp 8) (.tmp 86) rfl Z 0 #[.string ⟨#[]⟩, .int .i64 0, .int .i64 0, .string ⟨#[]⟩, .string ⟨#[]⟩] rfl rfl HTH.out Tryz.hitSz (by simp [Value.oneCell']) ?_; generalize wr.setCells Z 0 _ = W9 at Z4 HF ⊢)
            refine bodyPost_ret (v := .tuple #[.agg #[.string ⟨#[]⟩, .int .i64 0, .int .i64 0, .string ⟨#[]⟩, .string ⟨#[]⟩], .int .i64 8]) ?_ rfl HF.out
            exact results_cell2 (t := 8) (u := 9) (by rfl) _ _ _ Tryz.isAgg37 Tryz.sizeOf37 (by rfl) [.string ⟨#[]⟩, .int .i64 0, .int .i64 0, .string ⟨#[]⟩, .string ⟨#[]⟩] rfl (fun j v hj => Z4.out.cell j hj)
        obtain ⟨g, rfl, hg⟩ := HROW.out (by omega)
        obtain ⟨c0, c1, c2⟩ := hg q hlq wr HQ.out
        have hk3 : l.getD q 0 < 3 := HL3.out _ (by rw [List.getD_eq_getElem?_getD, List.getElem?_eq_getElem hlq]; exact List.getElem_mem _)
        have HYQ := Lib.hid (fun ix h => HYE.out q ix hlq HN.out h)
        have HNQ : Hid (decIn (ctxs.getD (l.getD q 0) noDCtx).rules op d = none → ∀ m, m < q + 1 → decIn (ctxs.getD (l.getD m 0) noDCtx).rules op d = none) := fun h m hm => by
          by_cases hmq : m = q
          · rw [hmq]; exact h
          · exact HN.out m (by omega)
        have HDK := Lib.hid (HDC2.out (l.getD q 0) hk3)
        have HRK := Lib.hid (HRR.out (l.getD q 0) hk3)
        have hrf := HFE.out (l.getD q 0) hk3
        have HHC : Hid (∀ ix, hitC ctxs d (l.getD q 0) ix = [.string ⟨(ctxs.getD (l.getD q 0) noDCtx).key.toArray⟩, .int .i64 ix, .int .i64 ((ctxs.getD (l.getD q 0) noDCtx).rules.getD ix noDRule).to_, .string ⟨((ctxs.getD (l.getD q 0) noDCtx).rules.getD ix noDRule).name.toArray⟩, .string ⟨(dialV ((ctxs.getD (l.getD q 0) noDCtx).rules.getD ix noDRule) d).toArray⟩]) := fun ix => rfl
        generalize hitC ctxs d (l.getD q 0) = hC at HYQ HHC
        generalize ctxs.getD (l.getD q 0) noDCtx = c at c0 c1 c2 HYQ HNQ HDK HRK HHC hrf
        obtain ⟨key, ra, rn, rc, rules, ia, inn, ic, incs⟩ := c
        simp only at c0 c1 c2 HYQ HNQ HRK HHC hrf
        have HDK2 : Hid (∀ W, Below w.heap.size w W → Calls Tryz.prog 33 #[.agg #[.slice ca cn cc, .slice ha hn hcp], .agg #[.string ⟨key.toArray⟩, .slice ra rn rc, .slice ia inn ic], .string ds, .int .i64 at_] W (IntP (optI (decIn rules op d)) W)) := HDK.out
        have hq0 : ¬ ((q : Int) < 0) := by omega
        have hql : (q : Int) < (l.length : Int) := by omega
        have hA : Below wr.heap.size wr (wr.alloc (.cells #[.string ⟨key.toArray⟩, .slice ra rn rc, .slice ia inn ic] 58)) := ext_alloc (Below.refl _ _)
        have C3 : Hid (Blk (wr.alloc (.cells #[.string ⟨key.toArray⟩, .slice ra rn rc, .slice ia inn ic] 58)) wr.heap.size [.string ⟨key.toArray⟩, .slice ra rn rc, .slice ia inn ic] 58) := Blk.new _ _ _
        have HQ3 := Lib.hid (ext_trans HQ.out hA)
        have HB3 := Lib.hid (ext_trans HB2.out HQ3.out)
        have P3 := Lib.hid (P2.out.below HQ3.out)
        clear hg hA HQ HDK HRR HDC2 HL3 HFE HYE HNO HN
        as_aux_lemma =>
          go_upto_region 7 with (fail)
          clear c0 c1 c2
          generalize wr.alloc (.cells #[.string ⟨key.toArray⟩, .slice ra rn rc, .slice ia inn ic] 58) = w3 at C3 HQ3 HB3 P3 ⊢
          generalize wr.heap.size = C at C3 ⊢
          have p0 := P3.out.cell 0 rfl
          have p1 := P3.out.cell 1 rfl
          have c0 := C3.out.cell 0 rfl
          have c1 := C3.out.cell 1 rfl
          have c2 := C3.out.cell 2 rfl
          have HDD := Lib.hid (HDK2.out w3 HB3.out)
          go_wp2_with fail
          refine HDD.out.mono ?_
          rintro e w4 ⟨rfl, hb⟩
          have HQ4 := Lib.hid (ext_trans HQ3.out hb)
          have C4 := Lib.hid (C3.out.below hb)
          clear hb p0 p1 c0 c1 c2 HDD HDK2 HB3 P3 C3 HQ3
          cases hdec : decIn rules op d with
          | none =>
            have HNX := Lib.hid (HNQ.out hdec)
            have hopt : optI none = -1 := rfl
            clear HNQ HYQ HHC HRK
            as_aux_lemma =>
              go_wp2_with fail
              go_roundw
              case rel => exact ⟨q + 1, by omega, by go_num, HNX, HQ4⟩
              case measure => simp [intOf]; omega
          | some ix =>
            obtain ⟨hv, he⟩ := HYQ.out ix hdec
            obtain ⟨hix, hok, b0, off, rfl, hrg⟩ := HRK.out ix (decTo_some hdec).1
            have hhc := HHC.out ix
            have HB4 := Lib.hid (ext_trans HB2.out HQ4.out)
            have HRG0 := hrg w4 HB4.out
            have HDB := Lib.hid (HDV.out (rules.getD ix noDRule))
            have HER : Hid (hitErr (rules.getD ix noDRule) d = if 30 < (dialV (rules.getD ix noDRule) d).length then 2 else if dialV (rules.getD ix noDRule) d = [] ∧ ((rules.getD ix noDRule).to_ = 1 ∨ (rules.getD ix noDRule).to_ = 2) then 3 else 0) := rfl
            have hto := hok.to_
            have hrpl := hok.pre
            unfold DRule.cells at HRG0
            generalize hitErr (rules.getD ix noDRule) d = ER at hv he HER
            generalize dialV (rules.getD ix noDRule) d = dv at HER HDB hhc
            generalize rules.getD ix noDRule = rl at HRG0 HDB HER hto hhc hrpl
            obtain ⟨rel, rn_, rp, rt, rm, rh⟩ := rl
            simp only at HRG0 HDB HER hto hhc hrpl
            have hrp2 : rp.length ≤ 2 := by
              simp only [List.mem_cons, List.not_mem_nil, or_false] at hrpl
              rcases hrpl with rfl | rfl | rfl <;> decide
            clear hrpl
            generalize rel.str = rs at HRG0
            have HRG := Lib.hid HRG0
            have HVV : Hid (RV = if ER = 0 then [.string ⟨key.toArray⟩, .int .i64 (ix : Int), .int .i64 rt, .string ⟨rm.toArray⟩, .string ⟨dv.toArray⟩] else [.string ⟨#[]⟩, .int .i64 0, .int .i64 0, .string ⟨#[]⟩, .string ⟨#[]⟩]) := by show _ = _; rw [hv, hhc]; rfl
            have HEE := Lib.hid he
            obtain ⟨mu, hmu⟩ : ∃ mu : Nat, mu = min rn_ d.length := ⟨_, rfl⟩
            have hmin : min (rn_ : Int) (d.length : Int) = (mu : Int) := by omega
            have hmud : mu ≤ d.length := by omega
            rw [← hmu] at HDB
            have hm0 : ¬ ((mu : Int) < 0) := by omega
            have hmd : (mu : Int) ≤ (d.length : Int) := by omega
            generalize d.length = dm at HDB hmin hmud hmd hsz hdl
            have hi0 : ¬ ((ix : Int) < 0) := by omega
            have hirn : (ix : Int) < (rn : Int) := by omega
            have hopt : optI (some ix) = (ix : Int) := rfl
            have Z4 := Lib.hid (Z2.out.below HQ4.out)
            clear hv he hhc HRG0 hrg hok HRK HYQ HNQ HHC hdec hmu HDV HROW P2 Z2 HQ4 HB2
            have hz0 := Blk.new w4 [.string ⟨#[]⟩, .int .i64 0, .string ⟨#[]⟩, .int .i64 0, .string ⟨#[]⟩, .string ⟨#[]⟩] 63
            have HTH : Hid (World.there (w4.alloc (.cells #[.string ⟨#[]⟩, .int .i64 0, .string ⟨#[]⟩, .int .i64 0, .string ⟨#[]⟩, .string ⟨#[]⟩] 63)) w4.heap.size 0 6) := hz0.th 6 (Nat.le_refl 6)
            have hA : Below w4.heap.size w4 (w4.alloc (.cells #[.string ⟨#[]⟩, .int .i64 0, .string ⟨#[]⟩, .int .i64 0, .string ⟨#[]⟩, .string ⟨#[]⟩] 63)) := ext_alloc (Below.refl _ _)
            have hV : Below w4.heap.size w4 (World.setCells (w4.alloc (.cells #[.string ⟨#[]⟩, .int .i64 0, .string ⟨#[]⟩, .int .i64 0, .string ⟨#[]⟩, .string ⟨#[]⟩] 63)) w4.heap.size 0 [.string ⟨rs.toArray⟩, .int .i64 rn_, .string ⟨rp.toArray⟩, .int .i64 rt, .string ⟨rm.toArray⟩, .string ⟨rh.toArray⟩]) := belowW_put (Nat.le_refl _) hA _
            have R5 : Hid (Blk (World.setCells (w4.alloc (.cells #[.string ⟨#[]⟩, .int .i64 0, .string ⟨#[]⟩, .int .i64 0, .string ⟨#[]⟩, .string ⟨#[]⟩] 63)) w4.heap.size 0 [.string ⟨rs.toArray⟩, .int .i64 rn_, .string ⟨rp.toArray⟩, .int .i64 rt, .string ⟨rm.toArray⟩, .string ⟨rh.toArray⟩]) w4.heap.size [.string ⟨rs.toArray⟩, .int .i64 rn_, .string ⟨rp.toArray⟩, .int .i64 rt, .string ⟨rm.toArray⟩, .string ⟨rh.toArray⟩] 63) := hz0.put6 (.string ⟨rs.toArray⟩) (.int .i64 rn_) (.string ⟨rp.toArray⟩) (.int .i64 rt) (.string ⟨rm.toArray⟩) (.string ⟨rh.toArray⟩)
            have C5 := Lib.hid (C4.out.below hV)
            have Z5 := Lib.hid (Z4.out.below hV)
            have HB5 := Lib.hid (ext_trans HB4.out hV)
            have c1 := C4.out.cell 1 rfl
            clear hz0 hA hV HB4 Z4
            as_aux_lemma =>
              go_wp2_with (first | (refine wpList_load_mid rfl 63 (.tmp 45) rfl b0 (off + ix * 6) rfl [.string ⟨rs.toArray⟩, .int .i64 rn_, .string ⟨rp.toArray⟩, .int .i64 rt, .string ⟨rm.toArray⟩, .string ⟨rh.toArray⟩] _ HRG.out Tryz.underlying63 rfl Tryz.druleSz ?_) | (refine wpList_store_mid rfl 63 (.tmp 15) (.tmp 46) rfl w4.heap.size 0 #[.string ⟨rs.toArray⟩, .int .i64 rn_, .string ⟨rp.toArray⟩, .int .i64 rt, .string ⟨rm.toArray⟩, .string ⟨rh.toArray⟩] rfl rfl HTH.out Tryz.druleSz (by simp [Value.oneCell']) ?_; generalize (World.setCells (w4.alloc (.cells #[.string ⟨#[]⟩, .int .i64 0, .string ⟨#[]⟩, .int .i64 0, .string ⟨#[]⟩, .string ⟨#[]⟩] 63)) w4.heap.size 0 [.string ⟨rs.toArray⟩, .int .i64 rn_, .string ⟨rp.toArray⟩, .int .i64 rt, .string ⟨rm.toArray⟩, .string ⟨rh.toArray⟩]) = w5 at R5 C5 Z5 HB5 ⊢; clear HTH HRG; refine Hid.out ?_))
              refine Lib.hid ?_
              generalize w4.heap.size = Rb at R5 ⊢
              have c0 := C5.out.cell 0 rfl
              have r1 := R5.out.cell 1 rfl
              have r2 := R5.out.cell 2 rfl
              have r3 := R5.out.cell 3 rfl
              have r4 := R5.out.cell 4 rfl
              have hcl := C5.out.lt
              have hrl := R5.out.lt
              have hdb := HDB.out
              clear c1 C4
              as_aux_lemma =>
                go_upto_region 10 with (fail)
                go_cut [16] (fun v wx => ∃ Y, v = .pointer (some ⟨Y, 0, none⟩) ∧ Hid (Blk wx Y [.string ⟨key.toArray⟩, .int .i64 (ix : Int), .int .i64 rt, .string ⟨rm.toArray⟩, .string ⟨dv.toArray⟩] 37) ∧ Hid (Below w5.heap.size w5 wx))
                case first =>
                  clear Z5 HB5 HVV HEE HER
                  refine NoS.region_all 0 0 1 19 0 [.val (fun v => (.pointer (some ⟨C, 0, none⟩)) = v), .val (fun v => (.string ⟨key.toArray⟩) = v), .val (fun v => (.int .i64 (ix : Int)) = v), .val (fun v => (.pointer (some ⟨Rb, 3, none⟩)) = v), .val (fun v => (.int .i64 rt) = v), .val (fun v => (.pointer (some ⟨Rb, 4, none⟩)) = v), .val (fun v => (.string ⟨rm.toArray⟩) = v), .val (fun v => (.pointer (some ⟨Rb, 2, none⟩)) = v), .val (fun v => (.string ⟨rp.toArray⟩) = v), .val (fun v => (.string ds) = v), .val (fun v => (.pointer (some ⟨Rb, 1, none⟩)) = v), .val (fun v => (.int .i64 rn_) = v), .val (fun v => (.string ds) = v), .val (fun v => (.int .i64 (dm : Int)) = v), .val (fun v => (.int .i64 (mu : Int)) = v), .val (fun v => (.string (ds.extract mu dm)) = v), .val (fun v => (.string ⟨dv.toArray⟩) = v), .val (fun v => (.agg #[.string ⟨key.toArray⟩, .int .i64 (ix : Int), .int .i64 rt, .string ⟨rm.toArray⟩, .string ⟨dv.toArray⟩]) = v), .mem (fun W v => ∃ Y, v = .pointer (some ⟨Y, 0, none⟩) ∧ Blk W Y [.string ⟨#[]⟩, .int .i64 0, .int .i64 0, .string ⟨#[]⟩, .string ⟨#[]⟩] 37 ∧ w5.heap.size ≤ Y)] [] [some 47, some 48, some 49, some 50, some 51, some 52, some 53, some 54, some 55, some 56, some 57, some 58, some 59, some 60, some 61, some 62, some 63, some 64, some 16] rfl (by kernel_rfl) (by kernel_rfl) (by kernel_rfl) (by kernel_rfl) (by kernel_rfl) rfl (by kernel_rfl) rfl rfl (by kernel_rfl) trivial ⟨?_, ?_, ?_, ?_, ?_, ?_, ?_, ?_, ?_, ?_, ?_, ?_, ?_, ?_, ?_, ?_, ?_, ?_, ?_, trivial⟩ ?_
                  · intro a9 w' c9 hk hst hc hfr hdp K hK
                    as_aux_lemma =>
                      have E13 : a9.eval (.tmp 13) = .pointer (some ⟨C, 0, none⟩) := NoS.fr_list hfr 13 (by kernel_rfl)
                      have d13_ := slot_of E13
                      refine NoS.gen_pure (v := .pointer (some ⟨C, 0, none⟩)) ?_ (hK _ _ rfl (NoS.Keeps.refl _ _) hst)
                      clear hK hdp hfr
                      go_simp
                  · intro a9 w' c9 hk hst hc hfr hdp K hK
                    as_aux_lemma =>
                      have E47 : a9.eval (.tmp 47) = .pointer (some ⟨C, 0, none⟩) := Eq.symm (hdp 0 47 _ (by kernel_rfl) (by kernel_rfl) rfl)
                      have d47_ := slot_of E47
                      have e0 : w'.cell? ⟨C, 0, none⟩ = some (.string ⟨key.toArray⟩) := (hk.cell (p := ⟨C, 0, none⟩) hcl).trans c0
                      refine NoS.gen_pure (v := .string ⟨key.toArray⟩) ?_ (hK _ _ rfl (NoS.Keeps.refl _ _) hst)
                      clear hK hdp hfr
                      go_simp
                  · intro a9 w' c9 hk hst hc hfr hdp K hK
                    as_aux_lemma =>
                      have E14 : a9.eval (.tmp 14) = .int .i64 (ix : Int) := NoS.fr_list hfr 14 (by kernel_rfl)
                      have d14_ := slot_of E14
                      refine NoS.gen_pure (v := .int .i64 (ix : Int)) ?_ (hK _ _ rfl (NoS.Keeps.refl _ _) hst)
                      clear hK hdp hfr
                      go_simp
                  · intro a9 w' c9 hk hst hc hfr hdp K hK
                    as_aux_lemma =>
                      have E15 : a9.eval (.tmp 15) = .pointer (some ⟨Rb, 0, none⟩) := NoS.fr_list hfr 15 (by kernel_rfl)
                      have d15_ := slot_of E15
                      refine NoS.gen_pure (v := .pointer (some ⟨Rb, 3, none⟩)) ?_ (hK _ _ rfl (NoS.Keeps.refl _ _) hst)
                      clear hK hdp hfr
                      go_simp
                  · intro a9 w' c9 hk hst hc hfr hdp K hK
                    as_aux_lemma =>
                      have E50 : a9.eval (.tmp 50) = .pointer (some ⟨Rb, 3, none⟩) := Eq.symm (hdp 3 50 _ (by kernel_rfl) (by kernel_rfl) rfl)
                      have d50_ := slot_of E50
                      have e0 : w'.cell? ⟨Rb, 3, none⟩ = some (.int .i64 rt) := (hk.cell (p := ⟨Rb, 3, none⟩) hrl).trans r3
                      refine NoS.gen_pure (v := .int .i64 rt) ?_ (hK _ _ rfl (NoS.Keeps.refl _ _) hst)
                      clear hK hdp hfr
                      go_simp
                  · intro a9 w' c9 hk hst hc hfr hdp K hK
                    as_aux_lemma =>
                      have E15 : a9.eval (.tmp 15) = .pointer (some ⟨Rb, 0, none⟩) := NoS.fr_list hfr 15 (by kernel_rfl)
                      have d15_ := slot_of E15
                      refine NoS.gen_pure (v := .pointer (some ⟨Rb, 4, none⟩)) ?_ (hK _ _ rfl (NoS.Keeps.refl _ _) hst)
                      clear hK hdp hfr
                      go_simp
                  · intro a9 w' c9 hk hst hc hfr hdp K hK
                    as_aux_lemma =>
                      have E52 : a9.eval (.tmp 52) = .pointer (some ⟨Rb, 4, none⟩) := Eq.symm (hdp 5 52 _ (by kernel_rfl) (by kernel_rfl) rfl)
                      have d52_ := slot_of E52
                      have e0 : w'.cell? ⟨Rb, 4, none⟩ = some (.string ⟨rm.toArray⟩) := (hk.cell (p := ⟨Rb, 4, none⟩) hrl).trans r4
                      refine NoS.gen_pure (v := .string ⟨rm.toArray⟩) ?_ (hK _ _ rfl (NoS.Keeps.refl _ _) hst)
                      clear hK hdp hfr
                      go_simp
                  · intro a9 w' c9 hk hst hc hfr hdp K hK
                    as_aux_lemma =>
                      have E15 : a9.eval (.tmp 15) = .pointer (some ⟨Rb, 0, none⟩) := NoS.fr_list hfr 15 (by kernel_rfl)
                      have d15_ := slot_of E15
                      refine NoS.gen_pure (v := .pointer (some ⟨Rb, 2, none⟩)) ?_ (hK _ _ rfl (NoS.Keeps.refl _ _) hst)
                      clear hK hdp hfr
                      go_simp
                  · intro a9 w' c9 hk hst hc hfr hdp K hK
                    as_aux_lemma =>
                      have E54 : a9.eval (.tmp 54) = .pointer (some ⟨Rb, 2, none⟩) := Eq.symm (hdp 7 54 _ (by kernel_rfl) (by kernel_rfl) rfl)
                      have d54_ := slot_of E54
                      have e0 : w'.cell? ⟨Rb, 2, none⟩ = some (.string ⟨rp.toArray⟩) := (hk.cell (p := ⟨Rb, 2, none⟩) hrl).trans r2
                      refine NoS.gen_pure (v := .string ⟨rp.toArray⟩) ?_ (hK _ _ rfl (NoS.Keeps.refl _ _) hst)
                      clear hK hdp hfr
                      go_simp
                  · intro a9 w' c9 hk hst hc hfr hdp K hK
                    as_aux_lemma =>
                      have E2 : a9.eval (.tmp 2) = .string ds := NoS.fr_list hfr 2 (by kernel_rfl)
                      have d2_ := slot_of E2
                      refine NoS.gen_pure (v := .string ds) ?_ (hK _ _ rfl (NoS.Keeps.refl _ _) hst)
                      clear hK hdp hfr
                      go_simp
                  · intro a9 w' c9 hk hst hc hfr hdp K hK
                    as_aux_lemma =>
                      have E15 : a9.eval (.tmp 15) = .pointer (some ⟨Rb, 0, none⟩) := NoS.fr_list hfr 15 (by kernel_rfl)
                      have d15_ := slot_of E15
                      refine NoS.gen_pure (v := .pointer (some ⟨Rb, 1, none⟩)) ?_ (hK _ _ rfl (NoS.Keeps.refl _ _) hst)
                      clear hK hdp hfr
                      go_simp
                  · intro a9 w' c9 hk hst hc hfr hdp K hK
                    as_aux_lemma =>
                      have E57 : a9.eval (.tmp 57) = .pointer (some ⟨Rb, 1, none⟩) := Eq.symm (hdp 10 57 _ (by kernel_rfl) (by kernel_rfl) rfl)
                      have d57_ := slot_of E57
                      have e0 : w'.cell? ⟨Rb, 1, none⟩ = some (.int .i64 rn_) := (hk.cell (p := ⟨Rb, 1, none⟩) hrl).trans r1
                      refine NoS.gen_pure (v := .int .i64 rn_) ?_ (hK _ _ rfl (NoS.Keeps.refl _ _) hst)
                      clear hK hdp hfr
                      go_simp
                  · intro a9 w' c9 hk hst hc hfr hdp K hK
                    as_aux_lemma =>
                      have E2 : a9.eval (.tmp 2) = .string ds := NoS.fr_list hfr 2 (by kernel_rfl)
                      have d2_ := slot_of E2
                      refine NoS.gen_pure (v := .string ds) ?_ (hK _ _ rfl (NoS.Keeps.refl _ _) hst)
                      clear hK hdp hfr
                      go_simp
                  · intro a9 w' c9 hk hst hc hfr hdp K hK
                    as_aux_lemma =>
                      have E59 : a9.eval (.tmp 59) = .string ds := Eq.symm (hdp 12 59 _ (by kernel_rfl) (by kernel_rfl) rfl)
                      have d59_ := slot_of E59
                      refine NoS.gen_pure (v := .int .i64 (dm : Int)) ?_ (hK _ _ rfl (NoS.Keeps.refl _ _) hst)
                      clear hK hdp hfr
                      go_simp
                  · intro a9 w' c9 hk hst hc hfr hdp K hK
                    as_aux_lemma =>
                      have E58 : a9.eval (.tmp 58) = .int .i64 rn_ := Eq.symm (hdp 11 58 _ (by kernel_rfl) (by kernel_rfl) rfl)
                      have d58_ := slot_of E58
                      have E60 : a9.eval (.tmp 60) = .int .i64 (dm : Int) := Eq.symm (hdp 13 60 _ (by kernel_rfl) (by kernel_rfl) rfl)
                      have d60_ := slot_of E60
                      refine NoS.gen_pure (v := .int .i64 (mu : Int)) ?_ (hK _ _ rfl (NoS.Keeps.refl _ _) hst)
                      clear hK hdp hfr
                      go_simp
                  · intro a9 w' c9 hk hst hc hfr hdp K hK
                    skip
                    have E56 : a9.eval (.tmp 56) = .string ds := Eq.symm (hdp 9 56 _ (by kernel_rfl) (by kernel_rfl) rfl)
                    have d56_ := slot_of E56
                    have E61 : a9.eval (.tmp 61) = .int .i64 (mu : Int) := Eq.symm (hdp 14 61 _ (by kernel_rfl) (by kernel_rfl) rfl)
                    have d61_ := slot_of E61
                    refine NoS.gen_pure (v := .string (ds.extract mu dm)) ?_ (hK _ _ rfl (NoS.Keeps.refl _ _) hst)
                    clear hK hdp hfr
                    go_simp
                  · intro a9 w' c9 hk hst hc hfr hdp K hK
                    skip
                    have E55 : a9.eval (.tmp 55) = .string ⟨rp.toArray⟩ := Eq.symm (hdp 8 55 _ (by kernel_rfl) (by kernel_rfl) rfl)
                    have d55_ := slot_of E55
                    have E62 : a9.eval (.tmp 62) = .string (ds.extract mu dm) := Eq.symm (hdp 15 62 _ (by kernel_rfl) (by kernel_rfl) rfl)
                    have d62_ := slot_of E62
                    refine NoS.gen_pure (v := .string ⟨dv.toArray⟩) ?_ (hK _ _ rfl (NoS.Keeps.refl _ _) hst)
                    clear hK hdp hfr
                    go_simp
                    omega
                  · intro a9 w' c9 hk hst hc hfr hdp K hK
                    as_aux_lemma =>
                      have E48 : a9.eval (.tmp 48) = .string ⟨key.toArray⟩ := Eq.symm (hdp 1 48 _ (by kernel_rfl) (by kernel_rfl) rfl)
                      have d48_ := slot_of E48
                      have E49 : a9.eval (.tmp 49) = .int .i64 (ix : Int) := Eq.symm (hdp 2 49 _ (by kernel_rfl) (by kernel_rfl) rfl)
                      have d49_ := slot_of E49
                      have E51 : a9.eval (.tmp 51) = .int .i64 rt := Eq.symm (hdp 4 51 _ (by kernel_rfl) (by kernel_rfl) rfl)
                      have d51_ := slot_of E51
                      have E53 : a9.eval (.tmp 53) = .string ⟨rm.toArray⟩ := Eq.symm (hdp 6 53 _ (by kernel_rfl) (by kernel_rfl) rfl)
                      have d53_ := slot_of E53
                      have E63 : a9.eval (.tmp 63) = .string ⟨dv.toArray⟩ := Eq.symm (hdp 16 63 _ (by kernel_rfl) (by kernel_rfl) rfl)
                      have d63_ := slot_of E63
                      refine NoS.gen_pure (v := .agg #[.string ⟨key.toArray⟩, .int .i64 (ix : Int), .int .i64 rt, .string ⟨rm.toArray⟩, .string ⟨dv.toArray⟩]) ?_ (hK _ _ rfl (NoS.Keeps.refl _ _) hst)
                      clear hK hdp hfr
                      go_simp
                  · intro a9 w' c9 hk hst hc hfr hdp K hK
                    as_aux_lemma =>
                      refine wp_valD (v := .pointer (some ⟨w'.heap.size, 0, none⟩)) (w' := w'.alloc (.cells #[.string ⟨#[]⟩, .int .i64 0, .int .i64 0, .string ⟨#[]⟩, .string ⟨#[]⟩] 37)) ?_ (hK _ _ ?_ ?_ trivial)
                      · clear hK hdp hfr; go_simp
                      · intro w9 h9
                        exact ⟨_, rfl, (Blk.new w' [.string ⟨#[]⟩, .int .i64 0, .int .i64 0, .string ⟨#[]⟩, .string ⟨#[]⟩] 37).below (NoS.Keeps.below h9), (by have h8 := NoS.Keeps.size hk; exact h8)⟩
                      · exact NoS.Keeps.of_below (ext_alloc (Below.refl _ _))
                  intro w9 hk9 _
                  as_aux_lemma =>
                    rintro _ rfl _ rfl _ rfl _ rfl _ rfl _ rfl _ rfl _ rfl _ rfl _ rfl _ rfl _ rfl _ rfl _ rfl _ rfl _ rfl _ rfl _ rfl _ h10
                    obtain ⟨Y, rfl, hY, hYl⟩ := h10 w9 (NoS.Keeps.refl _ _)
                    simp only [NoS.ForVals, Act.put, List.setIfInBounds_toArray, List.set_cons_zero, List.set_cons_succ, List.drop_succ_cons, List.drop_zero]
                    have hb9 : Below w5.heap.size w5 w9 := ext_trans (by exact ext_drew (Below.refl _ _)) (NoS.Keeps.below hk9)
                    have HTY : Hid (w9.there Y 0 5) := hY.th 5 (by simp)
                    have hV9 : Below w5.heap.size w5 (w9.setCells Y 0 [.string ⟨key.toArray⟩, .int .i64 (ix : Int), .int .i64 rt, .string ⟨rm.toArray⟩, .string ⟨dv.toArray⟩]) := hb9.trans (below_setCellsD hYl _ _ _)
                    have Y6 : Hid (Blk (w9.setCells Y 0 [.string ⟨key.toArray⟩, .int .i64 (ix : Int), .int .i64 rt, .string ⟨rm.toArray⟩, .string ⟨dv.toArray⟩]) Y [.string ⟨key.toArray⟩, .int .i64 (ix : Int), .int .i64 rt, .string ⟨rm.toArray⟩, .string ⟨dv.toArray⟩] 37) := ((((hY.put 0 _).put 1 _).put 2 _).put 3 _).put 4 _
                    have HV9 := Lib.hid hV9
                    clear hY hb9 hk9 h10 hV9 c0 r1 r2 r3 r4 hcl hrl HDB hdb hYl hm0 hmd hmin hmud hsz
                    go_wp2_with (refine wpList_store_mid rfl 37 (.tmp 16) (.tmp 64) rfl Y 0 #[.string ⟨key.toArray⟩, .int .i64 (ix : Int), .int .i64 rt, .string ⟨rm.toArray⟩, .string ⟨dv.toArray⟩] rfl rfl HTY.out Tryz.hitSz (by simp [Value.oneCell']) ?_; generalize World.setCells w9 Y 0 _ = w6 at Y6 HV9 ⊢)
                    go_meet
                    exact ⟨Y, rfl, Y6, HV9⟩
                case rest =>
                  obtain ⟨Y, rfl, Y6, HV9⟩ := hcut
                  obtain ⟨w6, rfl⟩ : ∃ x : World, x = wc := ⟨_, rfl⟩
                  have R6 := Lib.hid (R5.out.below HV9.out)
                  have Z6 := Lib.hid (Z5.out.below HV9.out)
                  have HB6 := Lib.hid (ext_trans HB5.out HV9.out)
                  clear HV9 R5 Z5 C5 HB5 c0 r1 r2 r3 r4 hcl hrl HDB hdb hm0 hmd hmin hmud hsz
                  have HTZ : Hid (w6.there Z 0 5) := Z6.out.th 5 (Nat.le_refl 5)
                  have ZZ : Hid (Blk (w6.setCells Z 0 [.string ⟨#[]⟩, .int .i64 0, .int .i64 0, .string ⟨#[]⟩, .string ⟨#[]⟩]) Z [.string ⟨#[]⟩, .int .i64 0, .int .i64 0, .string ⟨#[]⟩, .string ⟨#[]⟩] 37) := ((((Z6.out.put 0 _).put 1 _).put 2 _).put 3 _).put 4 _
                  have ZV : Hid (Blk (w6.setCells Z 0 [.string ⟨key.toArray⟩, .int .i64 (ix : Int), .int .i64 rt, .string ⟨rm.toArray⟩, .string ⟨dv.toArray⟩]) Z [.string ⟨key.toArray⟩, .int .i64 (ix : Int), .int .i64 rt, .string ⟨rm.toArray⟩, .string ⟨dv.toArray⟩] 37) := ((((Z6.out.put 0 _).put 1 _).put 2 _).put 3 _).put 4 _
                  have HBZ : Hid (∀ vs, Below w.heap.size w (w6.setCells Z 0 vs)) := fun vs => HB6.out.trans (below_setCellsD hZw _ _ _)
                  have HRY : Hid (w6.rangeAt Y 0 [.string ⟨key.toArray⟩, .int .i64 (ix : Int), .int .i64 rt, .string ⟨rm.toArray⟩, .string ⟨dv.toArray⟩]) := Y6.out.rng
                  have y4 := Y6.out.cell 4 rfl
                  by_cases h30 : 30 < dv.length
                  · have hE : ER = 2 := by rw [HER.out, if_pos h30]
                    have HF : Hid (HitPost RV RE w (.returned (.tuple #[.agg #[.string ⟨#[]⟩, .int .i64 0, .int .i64 0, .string ⟨#[]⟩, .string ⟨#[]⟩], .int .i64 2])) (w6.setCells Z 0 [.string ⟨#[]⟩, .int .i64 0, .int .i64 0, .string ⟨#[]⟩, .string ⟨#[]⟩])) := by
                      rw [HVV.out, HEE.out, hE, if_neg (by decide)]
                      exact ⟨rfl, HBZ.out _⟩
                    have h30i : (dv.length : Int) > 30 := by omega
                    clear hE HVV HEE HER ZV HBZ HRY R6 Y6 Z6
                    as_aux_lemma =>
                      go_wp2_with (refine wpList_store_mid rfl 37 (.tmp 8) (.tmp 69) rfl Z 0 #[.string ⟨#[]⟩, .int .i64 0, .int .i64 0, .string ⟨#[]⟩, .string ⟨#[]⟩] rfl rfl HTZ.out Tryz.hitSz (by simp [Value.oneCell']) ?_; generalize w6.setCells Z 0 _ = W9 at ZZ HF ⊢)
                      refine bodyPost_ret (v := .tuple #[.agg #[.string ⟨#[]⟩, .int .i64 0, .int .i64 0, .string ⟨#[]⟩, .string ⟨#[]⟩], .int .i64 2]) ?_ rfl HF.out
                      exact results_cell2 (t := 8) (u := 9) (by rfl) _ _ _ Tryz.isAgg37 Tryz.sizeOf37 (by rfl) [.string ⟨#[]⟩, .int .i64 0, .int .i64 0, .string ⟨#[]⟩, .string ⟨#[]⟩] rfl (fun j v hj => ZZ.out.cell j hj)
                  have h30i : ¬ ((dv.length : Int) > 30) := by omega
                  have HER2 : Hid (ER = if dv = [] ∧ (rt = 1 ∨ rt = 2) then 3 else 0) := by show _ = _; rw [HER.out, if_neg h30]
                  clear HER h30
                  have r3 := R6.out.cell 3 rfl
                  have HOKF : Hid (ER = 0 → HitPost RV RE w (.returned (.tuple #[.agg #[.string ⟨key.toArray⟩, .int .i64 (ix : Int), .int .i64 rt, .string ⟨rm.toArray⟩, .string ⟨dv.toArray⟩], .int .i64 0])) (w6.setCells Z 0 [.string ⟨key.toArray⟩, .int .i64 (ix : Int), .int .i64 rt, .string ⟨rm.toArray⟩, .string ⟨dv.toArray⟩])) := fun hE => by
                    rw [HVV.out, HEE.out, hE, if_pos rfl]
                    exact ⟨rfl, HBZ.out _⟩
                  have HBDF : Hid (ER = 3 → HitPost RV RE w (.returned (.tuple #[.agg #[.string ⟨#[]⟩, .int .i64 0, .int .i64 0, .string ⟨#[]⟩, .string ⟨#[]⟩], .int .i64 3])) (w6.setCells Z 0 [.string ⟨#[]⟩, .int .i64 0, .int .i64 0, .string ⟨#[]⟩, .string ⟨#[]⟩])) := fun hE => by
                    rw [HVV.out, HEE.out, hE, if_neg (by decide)]
                    exact ⟨rfl, HBZ.out _⟩
                  clear HVV HEE HBZ R6 Y6 Z6 HB6
                  have HT1 : Hid ((rt = 1 ∨ rt = 2) → (rt = 1 ∧ (rt : Int) = 1) ∨ (rt = 2 ∧ ¬ (rt : Int) = 1 ∧ (rt : Int) = 2)) := fun h => by omega
                  cases dv with
                  | cons x dv =>
                    have hE : ER = 0 := by rw [HER2.out, if_neg (fun h => by cases h.1)]
                    have HF := Lib.hid (HOKF.out hE)
                    clear hE HER2 HOKF HBDF HT1 ZZ
                    as_aux_lemma =>
                      go_upto_region 15 with (fail)
                      go_wp2_with (first | (refine wpList_load_mid rfl 37 (.tmp 16) rfl Y 0 rfl [.string ⟨key.toArray⟩, .int .i64 (ix : Int), .int .i64 rt, .string ⟨rm.toArray⟩, .string ⟨(x :: dv).toArray⟩] _ HRY.out Tryz.underlying37 rfl Tryz.hitSz ?_) | (refine wpList_store_mid rfl 37 (.tmp 8) (.tmp 84) rfl Z 0 #[.string ⟨key.toArray⟩, .int .i64 (ix : Int), .int .i64 rt, .string ⟨rm.toArray⟩, .string ⟨(x :: dv).toArray⟩] rfl rfl HTZ.out Tryz.hitSz (by simp [Value.oneCell']) ?_; generalize w6.setCells Z 0 _ = W9 at ZV HF ⊢))
                      refine bodyPost_ret (v := .tuple #[.agg #[.string ⟨key.toArray⟩, .int .i64 (ix : Int), .int .i64 rt, .string ⟨rm.toArray⟩, .string ⟨(x :: dv).toArray⟩], .int .i64 0]) ?_ rfl HF.out
                      exact results_cell2 (t := 8) (u := 9) (by rfl) _ _ _ Tryz.isAgg37 Tryz.sizeOf37 (by rfl) [.string ⟨key.toArray⟩, .int .i64 (ix : Int), .int .i64 rt, .string ⟨rm.toArray⟩, .string ⟨(x :: dv).toArray⟩] rfl (fun j v hj => ZV.out.cell j hj)
                  | nil =>
                    by_cases hrt : rt = 1 ∨ rt = 2
                    case neg =>
                      have hE : ER = 0 := by rw [HER2.out, if_neg (fun h => hrt h.2)]
                      have HF := Lib.hid (HOKF.out hE)
                      have ht1 : ¬ ((rt : Int) = 1) := by omega
                      have ht2 : ¬ ((rt : Int) = 2) := by omega
                      have ht1b : ((rt : Int) == 1) = false := beq_eq_false_iff_ne.2 ht1
                      have ht2b : ((rt : Int) == 2) = false := beq_eq_false_iff_ne.2 ht2
                      clear hE HER2 HOKF HBDF HT1 ZZ hrt
                      as_aux_lemma =>
                        go_upto_region 15 with (fail)
                        go_wp2_with (first | (refine wpList_load_mid rfl 37 (.tmp 16) rfl Y 0 rfl [.string ⟨key.toArray⟩, .int .i64 (ix : Int), .int .i64 rt, .string ⟨rm.toArray⟩, .string ⟨([] : List UInt8).toArray⟩] _ HRY.out Tryz.underlying37 rfl Tryz.hitSz ?_) | (refine wpList_store_mid rfl 37 (.tmp 8) (.tmp 84) rfl Z 0 #[.string ⟨key.toArray⟩, .int .i64 (ix : Int), .int .i64 rt, .string ⟨rm.toArray⟩, .string ⟨([] : List UInt8).toArray⟩] rfl rfl HTZ.out Tryz.hitSz (by simp [Value.oneCell']) ?_; generalize w6.setCells Z 0 _ = W9 at ZV HF ⊢))
                        refine bodyPost_ret (v := .tuple #[.agg #[.string ⟨key.toArray⟩, .int .i64 (ix : Int), .int .i64 rt, .string ⟨rm.toArray⟩, .string ⟨([] : List UInt8).toArray⟩], .int .i64 0]) ?_ rfl HF.out
                        exact results_cell2 (t := 8) (u := 9) (by rfl) _ _ _ Tryz.isAgg37 Tryz.sizeOf37 (by rfl) [.string ⟨key.toArray⟩, .int .i64 (ix : Int), .int .i64 rt, .string ⟨rm.toArray⟩, .string ⟨([] : List UInt8).toArray⟩] rfl (fun j v hj => ZV.out.cell j hj)
                    have hE : ER = 3 := by rw [HER2.out, if_pos ⟨rfl, hrt⟩]
                    have HF := Lib.hid (HBDF.out hE)
                    clear hE HER2 HOKF HBDF ZV HRY
                    rcases hrt with rfl | rfl
                    · skip
                      as_aux_lemma =>
                        go_upto_region 14 with (fail)
                        go_wp2_with (refine wpList_store_mid rfl 37 (.tmp 8) (.tmp 83) rfl Z 0 #[.string ⟨#[]⟩, .int .i64 0, .int .i64 0, .string ⟨#[]⟩, .string ⟨#[]⟩] rfl rfl HTZ.out Tryz.hitSz (by simp [Value.oneCell']) ?_; generalize w6.setCells Z 0 _ = W9 at ZZ HF ⊢)
                        refine bodyPost_ret (v := .tuple #[.agg #[.string ⟨#[]⟩, .int .i64 0, .int .i64 0, .string ⟨#[]⟩, .string ⟨#[]⟩], .int .i64 3]) ?_ rfl HF.out
                        exact results_cell2 (t := 8) (u := 9) (by rfl) _ _ _ Tryz.isAgg37 Tryz.sizeOf37 (by rfl) [.string ⟨#[]⟩, .int .i64 0, .int .i64 0, .string ⟨#[]⟩, .string ⟨#[]⟩] rfl (fun j v hj => ZZ.out.cell j hj)
                    · skip
                      as_aux_lemma =>
                        go_upto_region 14 with (fail)
                        go_wp2_with (refine wpList_store_mid rfl 37 (.tmp 8) (.tmp 83) rfl Z 0 #[.string ⟨#[]⟩, .int .i64 0, .int .i64 0, .string ⟨#[]⟩, .string ⟨#[]⟩] rfl rfl HTZ.out Tryz.hitSz (by simp [Value.oneCell']) ?_; generalize w6.setCells Z 0 _ = W9 at ZZ HF ⊢)
                        refine bodyPost_ret (v := .tuple #[.agg #[.string ⟨#[]⟩, .int .i64 0, .int .i64 0, .string ⟨#[]⟩, .string ⟨#[]⟩], .int .i64 3]) ?_ rfl HF.out
                        exact results_cell2 (t := 8) (u := 9) (by rfl) _ _ _ Tryz.isAgg37 Tryz.sizeOf37 (by rfl) [.string ⟨#[]⟩, .int .i64 0, .int .i64 0, .string ⟨#[]⟩, .string ⟨#[]⟩] rfl (fun j v hj => ZZ.out.cell j hj)
end Go.Proofs.YtamlhapiehchoaaGreatDoor

set_option linter.unusedVariables false
set_option linter.unusedSimpArgs false
namespace Go.Proofs.YtamlhapiehchoaaGreatDoor
open Go.RowKit Go.Lib

theorem drop_left : ∀ {l : List UInt8} (cs : List UInt8) {c : UInt8}, c ∈ l → c ∉ cs → c ∈ l.dropWhile (cs.contains ·)
  | x :: l, cs, c, hc, hn => by
    by_cases hx : cs.contains x = true
    · rw [List.dropWhile_cons, if_pos hx]
      rcases List.mem_cons.1 hc with rfl | hc
      · exact absurd (by simpa using hx) hn
      · exact drop_left cs hc hn
    · rw [List.dropWhile_cons, if_neg hx]
      exact hc
theorem trim_left {l cs : List UInt8} {c : UInt8} (h : c ∈ l) (hn : c ∉ cs) : Lib.trimS l cs ≠ [] := by
  unfold Lib.trimS Lib.trimRightS Lib.trimLeftS
  intro e
  have h1 : c ∈ (l.dropWhile (cs.contains ·)) := drop_left cs h hn
  have h2 : c ∈ (l.dropWhile (cs.contains ·)).reverse.dropWhile (cs.contains ·) := drop_left cs (by simpa using h1) hn
  have h3 : c ∈ ((l.dropWhile (cs.contains ·)).reverse.dropWhile (cs.contains ·)).reverse := by simpa using h2
  first
    | (rw [e] at h3; cases h3)
    | (have h4 : c ∈ l.reverse.dropWhile (cs.contains ·) := drop_left cs (by simpa using h) hn
       have h5 : c ∈ (l.reverse.dropWhile (cs.contains ·)).reverse := by simpa using h4
       have h6 := drop_left cs h5 hn
       rw [e] at h6; cases h6)
def NoDial (s : List UInt8) : Prop := s.length ≤ 30 ∧ (s = [] ∨ ∃ c ∈ s, c ∉ signsL)

set_option maxHeartbeats 1000000 in
theorem isDialled_no (w : World) (s : List UInt8) (hs : NoDial s) :
    Calls Tryz.prog 53 #[.string ⟨s.toArray⟩, .int .i64 1] w fun e w' => e = .returned (.bool false) ∧ Below w.heap.size w w' := by
  have hsz : (⟨s.toArray⟩ : ByteArray).size = s.length := by show s.toArray.size = _; simp
  obtain ⟨h30, hs⟩ := hs
  have z2 : (⟨s.toArray⟩ : ByteArray).size ≤ 30 := by omega
  rcases hs with rfl | ⟨c, hc, hn⟩
  · clear hsz h30 z2
    go_enter Tryz.func53, Tryz.ntmps53
    go_wp2_with fail
    go_ret
    exact ⟨rfl, (by (try show Below _ _ _); repeat (with_reducible first | exact Below.refl _ _ | assumption | exact Hid.out (by assumption) | refine ext_alloc ?_ | refine ext_drewN ?_ | refine ext_drew ?_ | refine ext_setCell ?_ (Nat.le_refl _) | refine ext_setCell ?_ (Nat.le_succ _) | refine ext_trans ?_ (by assumption) | (refine ext_setCell ?_ (by simp)) | (refine ext_setCell ?_ (by simp at *; omega))))⟩
  · have z1 : 1 ≤ (⟨s.toArray⟩ : ByteArray).size := by
      rw [hsz]
      cases s with
      | nil => cases hc
      | cons => simp
    have HT : Hid (∀ w, Calls Tryz.prog 91 #[.string ⟨s.toArray⟩, .string ⟨#[35, 42, 48, 49, 50, 51, 52, 53, 54, 55, 56, 57]⟩] w fun e w' => ∃ t : List UInt8, t ≠ [] ∧ e = .returned (.string ⟨t.toArray⟩) ∧ Below w.heap.size w w') := fun w => by
      have := Tryz.strings_Trim_set ⟨s.toArray⟩ ⟨#[35, 42, 48, 49, 50, 51, 52, 53, 54, 55, 56, 57]⟩ w (by omega) (by decide) (by
        intro j b hj
        have hm := List.mem_of_getElem? hj
        have : ∀ b ∈ signsL, b.toNat < 128 := by decide
        exact this b hm)
      exact this.mono fun e w' h => ⟨Lib.trimS s signsL, trim_left hc hn, h.1, h.2⟩
    generalize (⟨s.toArray⟩ : ByteArray) = bs at HT z1 z2 ⊢
    clear hc hn hsz h30
    go_enter Tryz.func53, Tryz.ntmps53
    go_wp2_with fail
    refine (HT.out _).mono ?_
    rintro e w1 ⟨t, ht, rfl, hB1⟩
    have hne : (⟨t.toArray⟩ : ByteArray).toList.isEmpty = false := by
      rw [Go.ByteArray.toList_eq]
      cases t with
      | nil => exact absurd rfl ht
      | cons x l => rfl
    generalize (⟨t.toArray⟩ : ByteArray) = bt at hne
    clear ht
    go_wp2_with fail
    go_ret
    exact ⟨rfl, hB1⟩

set_option maxRecDepth 100000 in
set_option maxHeartbeats 4000000 in
theorem ask_no (w : World) (p : DPlan) (hp : DPlanFine w p) (i : Nat) (hi : i < 3) (s : List UInt8) (hs : NoDial s) (at_ : Int) :
    Calls Tryz.prog 32 #[.agg p.cells.toArray, .string ⟨(ctxKey i).toArray⟩, .string ⟨s.toArray⟩, .int .i64 at_] w fun e w' => e = .returned (.tuple #[.slice none 0 0, .int .i64 3]) ∧ Below w.heap.size w w' := by
  have HOP : Hid (∀ W, Below w.heap.size w W → Calls Tryz.prog 48 #[.agg p.cells.toArray, .string ⟨(ctxKey i).toArray⟩] W fun e w' => (∃ v, e = .returned (.tuple #[v, .int .i64 0])) ∧ Below W.heap.size W w') := fun W hW => (open_p W p (hp.below hW) i hi).mono fun e w' h => by
    obtain ⟨v, h1, _, h3⟩ := h
    exact ⟨⟨v, h1⟩, h3⟩
  have HID := Lib.hid (fun W => isDialled_no W s hs)
  clear hp hs
  generalize (⟨s.toArray⟩ : ByteArray) = ds at HID ⊢
  generalize ctxKey i = ki at HOP ⊢
  obtain ⟨ca, cn, cc, ctxs, ha, hn, hcp, hrs⟩ := p
  have HOP2 : Hid (∀ W, Below w.heap.size w W → Calls Tryz.prog 48 #[.agg #[.slice ca cn cc, .slice ha hn hcp], .string ⟨ki.toArray⟩] W fun e w' => (∃ v, e = .returned (.tuple #[v, .int .i64 0])) ∧ Below W.heap.size W w') := HOP.out
  clear HOP
  show Calls Tryz.prog 32 #[.agg #[.slice ca cn cc, .slice ha hn hcp], .string ⟨ki.toArray⟩, .string ds, .int .i64 at_] w _
  have HB1 : Hid (Below w.heap.size w (w.alloc (.cells #[.slice ca cn cc, .slice ha hn hcp] 29))) := ext_alloc (Below.refl _ _)
  go_enter Tryz.func32, Tryz.ntmps32
  go_upto_region 1 with (fail)
  have P1 : Hid (Blk (w.alloc (.cells #[.slice ca cn cc, .slice ha hn hcp] 29)) w.heap.size [.slice ca cn cc, .slice ha hn hcp] 29) := Blk.new w _ _
  generalize (w.alloc (.cells #[.slice ca cn cc, .slice ha hn hcp] 29)) = w1 at P1 HB1 ⊢
  have p0 := P1.out.cell 0 rfl
  have p1 := P1.out.cell 1 rfl
  go_wp2_with fail
  refine (HOP2.out _ HB1.out).mono ?_
  rintro e w2 ⟨⟨v, rfl⟩, hb⟩
  have HB2 := Lib.hid (ext_trans HB1.out hb)
  clear hb P1 p0 p1 HOP2 HB1
  go_wp2_with fail
  refine (HID.out _).mono ?_
  rintro e w3 ⟨rfl, hb3⟩
  have HB3 := Lib.hid (ext_trans HB2.out hb3)
  clear hb3
  go_wp2_with fail
  go_ret2
  exact ⟨rfl, HB3.out⟩

set_option maxRecDepth 100000 in
set_option maxHeartbeats 8000000 in
theorem decide_no (w : World) (p : DPlan) (hp : DPlanFine w p) (i : Nat) (hi : i < 3) (s : List UInt8) (hs : NoDial s) (at_ : Int) :
    Calls Tryz.prog 10 #[.agg p.cells.toArray, .string ⟨(ctxKey i).toArray⟩, .string ⟨s.toArray⟩, .int .i64 at_] w (HitPost zeroHit 3 w) := by
  have HAS := Lib.hid (fun W (hW : Below w.heap.size w W) => ask_no W p (hp.below hW) i hi s hs at_)
  clear hp hs
  generalize (⟨s.toArray⟩ : ByteArray) = ds at HAS ⊢
  generalize ctxKey i = ki at HAS ⊢
  obtain ⟨ca, cn, cc, ctxs, ha, hn, hcp, hrs⟩ := p
  have HAS2 : Hid (∀ W, Below w.heap.size w W → Calls Tryz.prog 32 #[.agg #[.slice ca cn cc, .slice ha hn hcp], .string ⟨ki.toArray⟩, .string ds, .int .i64 at_] W fun e w' => e = .returned (.tuple #[.slice none 0 0, .int .i64 3]) ∧ Below W.heap.size W w') := HAS.out
  clear HAS
  show Calls Tryz.prog 10 #[.agg #[.slice ca cn cc, .slice ha hn hcp], .string ⟨ki.toArray⟩, .string ds, .int .i64 at_] w _
  have P1 : Hid (Blk ((w.alloc (.cells #[.slice ca cn cc, .slice ha hn hcp] 29)).alloc (.cells #[.string ⟨#[]⟩, .int .i64 0, .int .i64 0, .string ⟨#[]⟩, .string ⟨#[]⟩] 37)) w.heap.size [.slice ca cn cc, .slice ha hn hcp] 29) := (Blk.new w _ _).alloc _
  have Z1 : Hid (Blk ((w.alloc (.cells #[.slice ca cn cc, .slice ha hn hcp] 29)).alloc (.cells #[.string ⟨#[]⟩, .int .i64 0, .int .i64 0, .string ⟨#[]⟩, .string ⟨#[]⟩] 37)) (w.heap.size + 1) [.string ⟨#[]⟩, .int .i64 0, .int .i64 0, .string ⟨#[]⟩, .string ⟨#[]⟩] 37) := by
    have := Blk.new (w.alloc (.cells #[.slice ca cn cc, .slice ha hn hcp] 29)) [.string ⟨#[]⟩, .int .i64 0, .int .i64 0, .string ⟨#[]⟩, .string ⟨#[]⟩] 37
    rw [show (w.alloc (.cells #[.slice ca cn cc, .slice ha hn hcp] 29)).heap.size = w.heap.size + 1 by simp] at this
    exact this
  have HB1 : Hid (Below w.heap.size w ((w.alloc (.cells #[.slice ca cn cc, .slice ha hn hcp] 29)).alloc (.cells #[.string ⟨#[]⟩, .int .i64 0, .int .i64 0, .string ⟨#[]⟩, .string ⟨#[]⟩] 37))) := ext_alloc (ext_alloc (Below.refl _ _))
  go_enter Tryz.func10, Tryz.ntmps10
  go_upto_region 1 with (fail)
  generalize ((w.alloc (.cells #[.slice ca cn cc, .slice ha hn hcp] 29)).alloc (.cells #[.string ⟨#[]⟩, .int .i64 0, .int .i64 0, .string ⟨#[]⟩, .string ⟨#[]⟩] 37)) = w1 at P1 Z1 HB1 ⊢
  obtain ⟨Z, hZ⟩ : ∃ Z, Z = w.heap.size + 1 := ⟨_, rfl⟩
  rw [← hZ] at Z1
  simp only [← hZ]
  have hZw : w.heap.size ≤ Z := by omega
  generalize w.heap.size = P at P1 ⊢
  clear hZ
  have p0 := P1.out.cell 0 rfl
  have p1 := P1.out.cell 1 rfl
  as_aux_lemma =>
    go_wp2_with fail
    refine (HAS2.out _ HB1.out).mono ?_
    rintro e w2 ⟨rfl, hb⟩
    have Z3 := Lib.hid (Z1.out.below hb)
    have HTH : Hid (w2.there Z 0 5) := Z3.out.th 5 (Nat.le_refl 5)
    have Z4 : Hid (Blk (w2.setCells Z 0 [.string ⟨#[]⟩, .int .i64 0, .int .i64 0, .string ⟨#[]⟩, .string ⟨#[]⟩]) Z [.string ⟨#[]⟩, .int .i64 0, .int .i64 0, .string ⟨#[]⟩, .string ⟨#[]⟩] 37) := ((((Z3.out.put 0 _).put 1 _).put 2 _).put 3 _).put 4 _
    have HF : Hid (HitPost zeroHit 3 w (.returned (.tuple #[.agg #[.string ⟨#[]⟩, .int .i64 0, .int .i64 0, .string ⟨#[]⟩, .string ⟨#[]⟩], .int .i64 3])) (w2.setCells Z 0 [.string ⟨#[]⟩, .int .i64 0, .int .i64 0, .string ⟨#[]⟩, .string ⟨#[]⟩])) := ⟨rfl, (ext_trans HB1.out hb).trans (below_setCellsD hZw _ _ _)⟩
    clear hb HAS2 Z1 Z3 P1 p0 p1 HB1
    as_aux_lemma =>
      go_wp2_with (refine wpList_store_mid rfl 37 (.tmp 8) (.tmp 27) rfl Z 0 #[.string ⟨#[]⟩, .int .i64 0, .int .i64 0, .string ⟨#[]⟩, .string ⟨#[]⟩] rfl rfl HTH.out Tryz.hitSz (by simp [Value.oneCell']) ?_; generalize w2.setCells Z 0 _ = W9 at Z4 HF ⊢)
      refine bodyPost_ret (v := .tuple #[.agg #[.string ⟨#[]⟩, .int .i64 0, .int .i64 0, .string ⟨#[]⟩, .string ⟨#[]⟩], .int .i64 3]) ?_ rfl HF.out
      exact results_cell2 (t := 8) (u := 9) (by rfl) _ _ _ Tryz.isAgg37 Tryz.sizeOf37 (by rfl) [.string ⟨#[]⟩, .int .i64 0, .int .i64 0, .string ⟨#[]⟩, .string ⟨#[]⟩] rfl (fun j v hj => Z4.out.cell j hj)

theorem hit_form (cs : List DCtx) (op : DRule → Bool) (d : List Nat) (l : List Nat) : ∃ s1 z1 z2 s2 s3, hitV cs op d l = [.string s1, .int .i64 z1, .int .i64 z2, .string s2, .string s3] := by
  unfold hitV
  split
  · exact ⟨_, _, _, _, _, rfl⟩
  · split
    · exact ⟨_, _, _, _, _, rfl⟩
    · exact ⟨_, _, _, _, _, rfl⟩
/-- Decide gives the same where the plan lies the same. -/
theorem decide_same (p : DPlan) (i : Nat) (hi : i < 3) (s : List UInt8) (hs : NoDial s ∨ ∃ d : List Nat, s = d.map signN ∧ (∀ j, j < d.length → d.getD j 0 < 12) ∧ 1 ≤ d.length ∧ d.length ≤ 30) (at_ : Int) (hat : isMomB at_ = true) (a0 : 0 ≤ at_) (a1 : at_ ≤ 345686400000) :
    ∃ s1 z1 z2 s2 s3 E, ∀ W, DPlanFine W p → Calls Tryz.prog 10 #[.agg p.cells.toArray, .string ⟨(ctxKey i).toArray⟩, .string ⟨s.toArray⟩, .int .i64 at_] W (HitPost [.string s1, .int .i64 z1, .int .i64 z2, .string s2, .string s3] E W) := by
  rcases hs with hs | ⟨d, rfl, hd, h1, h2⟩
  · exact ⟨⟨#[]⟩, 0, 0, ⟨#[]⟩, ⟨#[]⟩, 3, fun W hW => by
      have := decide_no W p hW i hi s hs at_
      exact this⟩
  · obtain ⟨s1, z1, z2, s2, s3, e⟩ := hit_form p.ctxs (opR p at_) d (ordP p i)
    refine ⟨s1, z1, z2, s2, s3, decErr p.ctxs (opR p at_) d (ordP p i), fun W hW => ?_⟩
    have := decide_any W p hW i hi d hd h1 h2 at_ hat a0 a1
    rw [e] at this
    exact this
end Go.Proofs.YtamlhapiehchoaaGreatDoor

namespace Go.Proofs.YtamlhapiehchoaaGreatDoor
open Go.RowKit

theorem mem_getD {xs : List Int} {i : Nat} (h : i < xs.length) : xs.getD i 0 ∈ xs := by
  rw [List.getD_eq_getElem?_getD, List.getElem?_eq_getElem h]; exact List.getElem_mem h

theorem Tryz.infoInt : (Tryz.prog.info? 3).map (fun i => (i.zero, i.size, i.bytes)) = some (some (.int .i64 0), 1, 8) := by kernel_rfl
end Go.Proofs.YtamlhapiehchoaaGreatDoor

namespace Go.Proofs.YtamlhapiehchoaaGreatDoor
open Go.RowKit
set_option linter.unusedVariables false
set_option linter.unusedSimpArgs false

theorem within_m (n lo hi : Int) (w : World) (h1 : lo ≤ n) (h2 : n ≤ hi) :
    Calls Tryz.prog 108 #[.int .i64 n, .int .i64 lo, .int .i64 hi] w fun e w' => e = .returned (.bool true) ∧ w = w' := by
  go_enter Tryz.func108, Tryz.ntmps108
  go_wp2
  go_ret
  exact ⟨rfl, rfl⟩

end Go.Proofs.YtamlhapiehchoaaGreatDoor

namespace Go.Proofs.YtamlhapiehchoaaGreatDoor
open Go.RowKit
set_option linter.unusedVariables false

theorem within_q (n lo hi : Int) (w : World) (h1 : lo ≤ n) (h2 : n ≤ hi) :
    Calls Tryz.prog 125 #[.int .i64 n, .int .i64 lo, .int .i64 hi] w fun e w' => e = .returned (.bool true) ∧ w = w' := by
  go_enter Tryz.func125, Tryz.ntmps125
  go_wp2
  go_ret
  exact ⟨rfl, rfl⟩

def anAgent : Value := .agg #[.string ⟨#[97]⟩, .slice none 0 0, .int .i64 0, .int .i64 5, .slice none 0 0, .int .i64 0]

set_option maxHeartbeats 1000000 in
theorem checkAgent_one (w : World) :
    Calls Tryz.prog 97 #[anAgent] w fun e w' => e = .returned (.int .i64 0) ∧ Below w.heap.size w w' := by
  unfold anAgent
  go_enter Tryz.func97, Tryz.ntmps97
  go_wp2_with fail
  refine wp_loop_rounds 1 ?_
  rw [rounds_succ]
  go_wp2_with fail
  refine wp_loop_rounds 1 ?_
  rw [rounds_succ]
  go_wp2_with (go_at_call 125; refine (within_q _ _ _ _ (by omega) (by omega)).mono ?_; rintro e w' ⟨rfl, rfl⟩)
  go_ret
  exact ⟨rfl, (Below.refl _ _).alloc (Nat.le_refl _) _⟩

theorem isKey_a (w : World) : Calls Tryz.prog 68 #[.string ⟨#[97]⟩] w fun e w' => e = .returned (.bool true) ∧ Below w.heap.size w w' := isKey_any [97] w (by decide)

set_option maxHeartbeats 1000000 in
theorem checkAgents_one (w : World) (b : Nat) (hb : b < w.heap.size) (h0 : w.cell? ⟨b, 0, none⟩ = some (.string ⟨#[97]⟩)) (h1 : w.cell? ⟨b, 1, none⟩ = some (.slice none 0 0)) (h2 : w.cell? ⟨b, 2, none⟩ = some (.int .i64 0)) (h3 : w.cell? ⟨b, 3, none⟩ = some (.int .i64 5)) (h4 : w.cell? ⟨b, 4, none⟩ = some (.slice none 0 0)) (h5 : w.cell? ⟨b, 5, none⟩ = some (.int .i64 0)) :
    Calls Tryz.prog 65 #[.slice (some ⟨b, 0, none⟩) 1 1] w fun e w' => e = .returned (.int .i64 0) ∧ Below w.heap.size w w' := by
  go_enter Tryz.func65, Tryz.ntmps65
  go_wp2_with fail
  refine wp_loop_rounds 2 ?_
  rw [rounds_succ]
  go_wp2_with fail
  refine (isKey_a _).mono ?_
  rintro e w1 ⟨rfl, hB1⟩
  obtain ⟨hc, hf⟩ := bcell hB1
  go_wp2_with fail
  go_quiet (fail)
  go_wp2_with fail
  refine (checkAgent_one _).mono ?_
  rintro e w2 ⟨rfl, hB2⟩
  go_wp2_with fail
  rw [rounds_succ]
  go_wp2_with fail
  go_ret
  exact ⟨rfl, (by (try show Below _ _ _); repeat (with_reducible first | exact Below.refl _ _ | assumption | exact Hid.out (by assumption) | refine ext_alloc ?_ | refine ext_drewN ?_ | refine ext_drew ?_ | refine ext_setCell ?_ (Nat.le_refl _) | refine ext_setCell ?_ (Nat.le_succ _) | refine ext_trans ?_ (by assumption) | (refine ext_setCell ?_ (by simp)) | (refine ext_setCell ?_ (by simp at *; omega))))⟩

theorem present1_any (at_ f t : Int) (w : World) (b : Nat) (hb : b < w.heap.size) (hc : w.cell? ⟨b, 0, none⟩ = some (.int .i64 at_)) (h1 : f ≤ at_) (h2 : at_ < t) :
    Calls Tryz.prog 98 #[.agg #[.int .i64 f, .int .i64 t], .pointer (some ⟨b, 0, none⟩)] w fun e w' => e = .returned (.bool true) ∧ Below w.heap.size w w' := by
  go_enter Tryz.func98, Tryz.ntmps98
  go_wp2_with fail
  go_ret
  exact ⟨rfl, (by (try show Below _ _ _); repeat (with_reducible first | exact Below.refl _ _ | assumption | exact Hid.out (by assumption) | refine ext_alloc ?_ | refine ext_drewN ?_ | refine ext_drew ?_ | refine ext_setCell ?_ (Nat.le_refl _) | refine ext_setCell ?_ (Nat.le_succ _) | refine ext_trans ?_ (by assumption) | (refine ext_setCell ?_ (by simp)) | (refine ext_setCell ?_ (by simp at *; omega))))⟩

theorem containsFunc_nil (f : Value) (w : World) :
    Calls Tryz.prog 99 #[.slice none 0 0, f] w fun e w' => e = .returned (.bool false) ∧ w = w' := by
  go_enter Tryz.func99, Tryz.ntmps99
  go_wp2
  refine wp_loop_rounds 1 ?_
  rw [rounds_succ]
  go_wp2
  go_ret
  exact ⟨rfl, rfl⟩

set_option maxHeartbeats 1000000 in
theorem present_one (w : World) :
    Calls Tryz.prog 66 #[anAgent, .int .i64 4] w fun e w' => e = .returned (.bool true) ∧ Below w.heap.size w w' := by
  unfold anAgent
  go_enter Tryz.func66, Tryz.ntmps66
  go_wp2_with fail
  refine (present1_any 4 0 5 _ (w.heap.size + 1) (by simp) (by simp) (by omega) (by omega)).mono ?_
  rintro e w1 ⟨rfl, hB1⟩
  obtain ⟨hc, hf⟩ := bcell hB1
  go_wp2_with fail
  refine (containsFunc_nil _ _).mono ?_
  rintro e w2 ⟨rfl, rfl⟩
  go_wp2_with fail
  go_ret
  exact ⟨rfl, (by (try show Below _ _ _); repeat (with_reducible first | exact Below.refl _ _ | assumption | exact Hid.out (by assumption) | refine ext_alloc ?_ | refine ext_drewN ?_ | refine ext_drew ?_ | refine ext_setCell ?_ (Nat.le_refl _) | refine ext_setCell ?_ (Nat.le_succ _) | refine ext_trans ?_ (by assumption) | (refine ext_setCell ?_ (by simp)) | (refine ext_setCell ?_ (by simp at *; omega))))⟩

set_option maxHeartbeats 1000000 in
theorem present_ready (w : World) :
    Calls Tryz.prog 38 #[anAgent, .int .i64 4] w fun e w' => e = .returned (.tuple #[.bool true, .int .i64 0]) ∧ Below w.heap.size w w' := by
  unfold anAgent
  go_enter Tryz.func38, Tryz.ntmps38
  go_wp2_with fail
  refine (checkAgents_one _ (w.heap.size + 1) (by simp) (by simp) (by simp) (by simp) (by simp) (by simp) (by simp)).mono ?_
  rintro e w1 ⟨rfl, hB1⟩
  obtain ⟨hc, hf⟩ := bcell hB1
  go_wp2_with fail
  refine (isMoment_any _ _).mono ?_
  rintro e w2 ⟨rfl, rfl⟩
  go_wp2_with fail
  refine (present_one _).mono ?_
  rintro e w3 ⟨rfl, hB3⟩
  go_wp2_with fail
  go_ret2
  exact ⟨rfl, (by (try show Below _ _ _); repeat (with_reducible first | exact Below.refl _ _ | assumption | exact Hid.out (by assumption) | refine ext_alloc ?_ | refine ext_drewN ?_ | refine ext_drew ?_ | refine ext_setCell ?_ (Nat.le_refl _) | refine ext_setCell ?_ (Nat.le_succ _) | refine ext_trans ?_ (by assumption) | (refine ext_setCell ?_ (by simp)) | (refine ext_setCell ?_ (by simp at *; omega))))⟩
end Go.Proofs.YtamlhapiehchoaaGreatDoor

namespace Go.Proofs.YtamlhapiehchoaaGreatDoor
open Go.RowKit
set_option linter.unusedVariables false

theorem within_v (n lo hi : Int) (w : World) (h1 : lo ≤ n) (h2 : n ≤ hi) :
    Calls Tryz.prog 69 #[.int .i64 n, .int .i64 lo, .int .i64 hi] w fun e w' => e = .returned (.bool true) ∧ w = w' := by
  go_enter Tryz.func69, Tryz.ntmps69
  go_wp2
  go_ret
  exact ⟨rfl, rfl⟩

theorem isKey_b (w : World) : Calls Tryz.prog 68 #[.string ⟨#[98]⟩] w fun e w' => e = .returned (.bool true) ∧ Below w.heap.size w w' := isKey_any [98] w (by decide)
theorem isKey_m (w : World) : Calls Tryz.prog 68 #[.string ⟨#[109]⟩] w fun e w' => e = .returned (.bool true) ∧ Below w.heap.size w w' := isKey_any [109] w (by decide)

def aBox : Value := .agg #[.string ⟨#[98]⟩, .int .i64 1, .int .i64 1, .int .i64 0, .int .i64 0, .slice none 0 0, .bool false, .int .i64 0, .int .i64 0]
def aMess : Value := .agg #[.string ⟨#[109]⟩, .string ⟨#[]⟩, .int .i64 0, .int .i64 1, .int .i64 1, .int .i64 0]

set_option maxHeartbeats 1000000 in
theorem checkBox_one (w : World) :
    Calls Tryz.prog 100 #[aBox] w fun e w' => e = .returned (.int .i64 0) ∧ Below w.heap.size w w' := by
  unfold aBox
  go_enter Tryz.func100, Tryz.ntmps100
  go_wp2_with (go_at_call 69; refine (within_v _ _ _ _ (by omega) (by omega)).mono ?_; rintro e w' ⟨rfl, rfl⟩)
  refine wp_loop_rounds 1 ?_
  rw [rounds_succ]
  go_wp2_with (go_at_call 69; refine (within_v _ _ _ _ (by omega) (by omega)).mono ?_; rintro e w' ⟨rfl, rfl⟩)
  go_ret
  exact ⟨rfl, (by (try show Below _ _ _); repeat (with_reducible first | exact Below.refl _ _ | assumption | exact Hid.out (by assumption) | refine ext_alloc ?_ | refine ext_drewN ?_ | refine ext_drew ?_ | refine ext_setCell ?_ (Nat.le_refl _) | refine ext_setCell ?_ (Nat.le_succ _) | refine ext_trans ?_ (by assumption) | (refine ext_setCell ?_ (by simp)) | (refine ext_setCell ?_ (by simp at *; omega))))⟩

set_option maxHeartbeats 1000000 in
theorem checkBoxes_one (w : World) (b : Nat) (hb : b < w.heap.size) (h0 : w.cell? ⟨b, 0, none⟩ = some (.string ⟨#[98]⟩)) (h1 : w.cell? ⟨b, 1, none⟩ = some (.int .i64 1)) (h2 : w.cell? ⟨b, 2, none⟩ = some (.int .i64 1)) (h3 : w.cell? ⟨b, 3, none⟩ = some (.int .i64 0)) (h4 : w.cell? ⟨b, 4, none⟩ = some (.int .i64 0)) (h5 : w.cell? ⟨b, 5, none⟩ = some (.slice none 0 0)) (h6 : w.cell? ⟨b, 6, none⟩ = some (.bool false)) (h7 : w.cell? ⟨b, 7, none⟩ = some (.int .i64 0)) (h8 : w.cell? ⟨b, 8, none⟩ = some (.int .i64 0)) :
    Calls Tryz.prog 67 #[.slice (some ⟨b, 0, none⟩) 1 1] w fun e w' => e = .returned (.int .i64 0) ∧ Below w.heap.size w w' := by
  go_enter Tryz.func67, Tryz.ntmps67
  go_wp2_with fail
  refine wp_loop_rounds 2 ?_
  rw [rounds_succ]
  go_wp2_with fail
  refine (isKey_b _).mono ?_
  rintro e w1 ⟨rfl, hB1⟩
  obtain ⟨hc, hf⟩ := bcell hB1
  go_wp2_with fail
  go_quiet (fail)
  go_wp2_with fail
  refine (checkBox_one _).mono ?_
  rintro e w2 ⟨rfl, hB2⟩
  go_wp2_with fail
  rw [rounds_succ]
  go_wp2_with fail
  go_ret
  exact ⟨rfl, (by (try show Below _ _ _); repeat (with_reducible first | exact Below.refl _ _ | assumption | exact Hid.out (by assumption) | refine ext_alloc ?_ | refine ext_drewN ?_ | refine ext_drew ?_ | refine ext_setCell ?_ (Nat.le_refl _) | refine ext_setCell ?_ (Nat.le_succ _) | refine ext_trans ?_ (by assumption) | (refine ext_setCell ?_ (by simp)) | (refine ext_setCell ?_ (by simp at *; omega))))⟩

set_option maxHeartbeats 1000000 in
theorem ends_one (w : World) : Calls Tryz.prog 70 #[aBox, aMess] w fun e w' => e = .returned (.int .i64 86400000) ∧ Below w.heap.size w w' := by
  unfold aBox aMess
  go_enter Tryz.func70, Tryz.ntmps70
  go_wp2_with fail
  go_ret
  exact ⟨rfl, (by (try show Below _ _ _); repeat (with_reducible first | exact Below.refl _ _ | assumption | exact Hid.out (by assumption) | refine ext_alloc ?_ | refine ext_drewN ?_ | refine ext_drew ?_ | refine ext_setCell ?_ (Nat.le_refl _) | refine ext_setCell ?_ (Nat.le_succ _) | refine ext_trans ?_ (by assumption) | (refine ext_setCell ?_ (by simp)) | (refine ext_setCell ?_ (by simp at *; omega))))⟩

set_option maxHeartbeats 2000000 in
theorem ends_ready (w : World) : Calls Tryz.prog 39 #[aBox, aMess] w fun e w' => e = .returned (.tuple #[.int .i64 86400000, .int .i64 0]) ∧ Below w.heap.size w w' := by
  unfold aBox aMess
  go_enter Tryz.func39, Tryz.ntmps39
  go_wp2_with fail
  refine (checkBoxes_one _ _ ?_ ?_ ?_ ?_ ?_ ?_ ?_ ?_ ?_ ?_).mono ?_
  iterate 10 (focus (first | (simp; done) | (go_simp; done)))
  rintro e w1 ⟨rfl, hB1⟩
  obtain ⟨hc, hf⟩ := bcell hB1
  go_wp2_with fail
  refine (isKey_m _).mono ?_
  rintro e w2 ⟨rfl, hB2⟩
  obtain ⟨hc2, hf2⟩ := bcell hB2
  have hz0 : w.heap.size < w1.heap.size := by have := hB1.size; simp at this; omega
  have hz1 : w.heap.size + 1 < w1.heap.size := by have := hB1.size; simp at this; omega
  go_wp2_with (first | (go_at_call 59; refine (isMoment_any _ _).mono ?_; rintro e w' ⟨rfl, rfl⟩) | (go_at_call 69; refine (within_v _ _ _ _ (by omega) (by omega)).mono ?_; rintro e w' ⟨rfl, rfl⟩))
  refine (ends_one _).mono ?_
  rintro e w3 ⟨rfl, hB3⟩
  go_wp2_with fail
  go_ret2
  exact ⟨rfl, (by (try show Below _ _ _); repeat (with_reducible first | exact Below.refl _ _ | assumption | exact Hid.out (by assumption) | refine ext_alloc ?_ | refine ext_drewN ?_ | refine ext_drew ?_ | refine ext_setCell ?_ (Nat.le_refl _) | refine ext_setCell ?_ (Nat.le_succ _) | refine ext_trans ?_ (by assumption) | (refine ext_setCell ?_ (by simp)) | (refine ext_setCell ?_ (by simp at *; omega))))⟩
end Go.Proofs.YtamlhapiehchoaaGreatDoor

namespace Go.Proofs.YtamlhapiehchoaaGreatDoor
open Go.RowKit
set_option linter.unusedVariables false

structure Cls where
  pre : List UInt8
  name : List UInt8
  setup : Int
  first : Int
  step : Int
  rate : Int

def Cls.cells (c : Cls) : List Value := [.string ⟨c.pre.toArray⟩, .string ⟨c.name.toArray⟩, .int .i64 c.setup, .int .i64 c.first, .int .i64 c.step, .int .i64 c.rate]
def noCls : Cls := ⟨[], [], 0, 0, 0, 0⟩

/-- A slice of classes that lies in memory. -/
def ClsRow (w : World) (a : Option Addr) (n : Nat) (cs : List Cls) : Prop :=
  n = cs.length ∧ n ≤ 200 ∧ (n = 0 ∨ ∃ b off, a = some ⟨b, off, none⟩ ∧ b < w.heap.size ∧ ∀ i, i < n → ∀ j, j < 6 → w.cell? ⟨b, off + i * 6 + j, none⟩ = (cs.getD i noCls).cells[j]?)

theorem ClsRow.below {w w' : World} {a : Option Addr} {n : Nat} {cs : List Cls} (h : ClsRow w a n cs) (hb : Below w.heap.size w w') : ClsRow w' a n cs := by
  obtain ⟨h1, h2, h3⟩ := h
  refine ⟨h1, h2, h3.imp id ?_⟩
  rintro ⟨b, off, ha, hl, hc⟩
  exact ⟨b, off, ha, Nat.lt_of_lt_of_le hl hb.size, fun i hi j hj => (hb.cell (p := ⟨b, off + i * 6 + j, none⟩) hl).trans (hc i hi j hj)⟩

/-- A slice of strings that lies in memory. -/
def StrRow (w : World) (a : Option Addr) (n : Nat) (ss : List (List UInt8)) : Prop :=
  n = ss.length ∧ n ≤ 200 ∧ (n = 0 ∨ ∃ b off, a = some ⟨b, off, none⟩ ∧ b < w.heap.size ∧ ∀ i, i < n → w.cell? ⟨b, off + i, none⟩ = some (.string ⟨(ss.getD i []).toArray⟩))

theorem StrRow.below {w w' : World} {a : Option Addr} {n : Nat} {ss : List (List UInt8)} (h : StrRow w a n ss) (hb : Below w.heap.size w w') : StrRow w' a n ss := by
  obtain ⟨h1, h2, h3⟩ := h
  refine ⟨h1, h2, h3.imp id ?_⟩
  rintro ⟨b, off, ha, hl, hc⟩
  exact ⟨b, off, ha, Nat.lt_of_lt_of_le hl hb.size, fun i hi => (hb.cell (p := ⟨b, off + i, none⟩) hl).trans (hc i hi)⟩

theorem within_a (n lo hi : Int) (w : World) (h1 : lo ≤ n) (h2 : n ≤ hi) :
    Calls Tryz.prog 73 #[.int .i64 n, .int .i64 lo, .int .i64 hi] w fun e w' => e = .returned (.bool true) ∧ w = w' := by
  go_enter Tryz.func73, Tryz.ntmps73
  go_wp2
  go_ret
  exact ⟨rfl, rfl⟩

/-- What the numbers of a class may begin with. -/
def isPreB (l : List UInt8) : Bool := l.isEmpty || (Lib.hasPrefix l [43] && (decide ((Lib.trimPrefix l [43]).length ≤ 15) && allIn (Lib.trimPrefix l [43]) digitSet))

theorem isPrefix_any (l : List UInt8) (w : World) (hs : l.length ≤ 9223372036854775807) :
    Calls Tryz.prog 101 #[.string ⟨l.toArray⟩] w fun e w' => e = .returned (.bool (isPreB l)) ∧ Below w.heap.size w w' := by
  have hcon := Tryz.strings_CutPrefix ⟨l.toArray⟩ ⟨#[43]⟩ w
  have hle : (Lib.trimPrefix l [43]).length ≤ l.length := by unfold Lib.trimPrefix; split <;> simp
  have hd : Hid (isPreB l = (l.isEmpty || (Lib.hasPrefix l [43] && (decide ((Lib.trimPrefix l [43]).length ≤ 15) && (Lib.trimS (Lib.trimPrefix l [43]) digitSet).isEmpty)))) := by rfl
  change Calls _ _ _ w fun e w' => e = .returned (.tuple #[.string ⟨(Lib.trimPrefix l [43]).toArray⟩, .bool (Lib.hasPrefix l [43])]) ∧ w' = w at hcon
  generalize Lib.trimPrefix l [43] = d at hcon hd hle
  generalize Lib.hasPrefix l [43] = b at hcon hd
  have hcon2 := fun w => trim_digits ⟨d.toArray⟩ w (by show d.length ≤ _; omega)
  change ∀ w, Calls _ _ _ w fun e w' => e = .returned (.string ⟨(Lib.trimS d digitSet).toArray⟩) ∧ Below w.heap.size w w' at hcon2
  generalize Lib.trimS d digitSet = r at hcon2 hd
  cases hl : l with
  | nil =>
    subst hl
    cases b <;>
    · go_enter Tryz.func101, Tryz.ntmps101
      go_wp2_with (first | (go_at_call 102; refine hcon.mono ?_; rintro e w' ⟨rfl, rfl⟩) | (go_at_call 91; refine (hcon2 _).mono ?_; rintro e w' ⟨rfl, hB⟩))
      go_ret
      exact ⟨by rw [hd.out]; rfl, Below.refl _ _⟩
  | cons c l' =>
    rw [hl] at hcon hd
    have hne : (c :: l').isEmpty = false := rfl
    cases b with
    | false =>
      go_enter Tryz.func101, Tryz.ntmps101
      go_wp2_with (first | (go_at_call 102; refine hcon.mono ?_; rintro e w' ⟨rfl, rfl⟩) | (go_at_call 91; refine (hcon2 _).mono ?_; rintro e w' ⟨rfl, hB⟩))
      go_ret
      exact ⟨by rw [hd.out]; rfl, Below.refl _ _⟩
    | true =>
      by_cases h15 : d.length ≤ 15
      · go_enter Tryz.func101, Tryz.ntmps101
        go_wp2_with (first | (go_at_call 102; refine hcon.mono ?_; rintro e w' ⟨rfl, rfl⟩) | (go_at_call 91; refine (hcon2 _).mono ?_; rintro e w' ⟨rfl, hB⟩))
        go_ret
        exact ⟨by rw [hd.out, decide_eq_true h15]; rfl, hB⟩
      · go_enter Tryz.func101, Tryz.ntmps101
        go_wp2_with (first | (go_at_call 102; refine hcon.mono ?_; rintro e w' ⟨rfl, rfl⟩) | (go_at_call 91; refine (hcon2 _).mono ?_; rintro e w' ⟨rfl, hB⟩))
        go_ret
        exact ⟨by rw [hd.out, decide_eq_false (by omega)]; rfl, Below.refl _ _⟩

structure GoodCls (c : Cls) : Prop where
  pre : isPreB c.pre = true
  preLen : c.pre.length ≤ 1000
  name : isKeyB c.name = true
  nameLen : c.name.length ≤ 1000
  setup0 : 0 ≤ c.setup
  setup1 : c.setup ≤ 1000000
  rate0 : 0 ≤ c.rate
  rate1 : c.rate ≤ 1000000
  first0 : 0 ≤ c.first
  first1 : c.first ≤ 86400000
  step0 : 1 ≤ c.step
  step1 : c.step ≤ 86400000

theorem cls_cells {w : World} {b off i : Nat} {c : Cls} (h : ∀ j, j < 6 → w.cell? ⟨b, off + i * 6 + j, none⟩ = c.cells[j]?) :
    w.cell? ⟨b, off + i * 6, none⟩ = some (.string ⟨c.pre.toArray⟩) ∧ w.cell? ⟨b, off + i * 6 + 1, none⟩ = some (.string ⟨c.name.toArray⟩) ∧ w.cell? ⟨b, off + i * 6 + 2, none⟩ = some (.int .i64 c.setup) ∧ w.cell? ⟨b, off + i * 6 + 3, none⟩ = some (.int .i64 c.first) ∧ w.cell? ⟨b, off + i * 6 + 4, none⟩ = some (.int .i64 c.step) ∧ w.cell? ⟨b, off + i * 6 + 5, none⟩ = some (.int .i64 c.rate) :=
  ⟨h 0 (by omega), h 1 (by omega), h 2 (by omega), h 3 (by omega), h 4 (by omega), h 5 (by omega)⟩

set_option maxHeartbeats 1000000 in
theorem checkTariff_ok (w : World) (a : Option Addr) (n cap : Nat) (cs : List Cls) (free : Int) (a2 : Option Addr) (n2 cap2 : Nat) (ss : List (List UInt8))
    (hr : ClsRow w a n cs) (hg : ∀ i, i < n → GoodCls (cs.getD i noCls)) (ho : ∀ i, 0 < i → i < n → leS (cs.getD i noCls).pre (cs.getD (i - 1) noCls).pre = false) (hs : StrRow w a2 n2 ss) (hi : ∀ i, i < n2 → isKeyB (ss.getD i []) = true ∧ (ss.getD i []).length ≤ 1000) (ho2 : ∀ i, 0 < i → i < n2 → leS (ss.getD i []) (ss.getD (i - 1) []) = false) (hf0 : 0 ≤ free) (hf1 : free ≤ 2592000000) :
    Calls Tryz.prog 71 #[.agg #[.slice a n cap, .int .i64 free, .slice a2 n2 cap2]] w fun e w' => e = .returned (.int .i64 0) ∧ Below w.heap.size w w' := by
  obtain ⟨hn, hn2, hr⟩ := hr
  have Hg := Lib.hid hg
  have Hr := Lib.hid hr
  have Hn := Lib.hid hn
  have Ho := Lib.hid ho
  have Hi := Lib.hid hi
  have Ho2 := Lib.hid ho2
  clear hg hr hn ho hi ho2
  obtain ⟨hn3, hn4, hs⟩ := hs
  have Hn3 := Lib.hid hn3
  have Hs := Lib.hid hs
  clear hs hn3
  go_enter Tryz.func71, Tryz.ntmps71
  go_wp2_with fail
  go_loopw [14] (fun i wr => ∃ k : Nat, k ≤ n ∧ i = .int .i64 k ∧ Hid (Below (w.alloc (.cells #[.slice a n cap, .int .i64 free, .slice a2 n2 cap2] 108)).heap.size (w.alloc (.cells #[.slice a n cap, .int .i64 free, .slice a2 n2 cap2] 108)) wr)) (fun i _ => n - (intOf i).toNat)
  case atStart => exact ⟨0, Nat.zero_le _, rfl, Below.refl _ _⟩
  case round =>
    obtain ⟨k, hk, rfl, HB⟩ := hrel
    by_cases hlt : k < n
    · have g := Hg.out k hlt
      rcases Hr.out with h0 | ⟨b, off, rfl, hb, hc⟩
      · omega
      have hbw : Below w.heap.size w wr := ext_trans (ext_alloc (Below.refl _ _)) HB.out
      obtain ⟨c0, c1, c2, c3, c4, c5⟩ := cls_cells (w := wr) (fun j hj => (hbw.cell (p := ⟨b, off + k * 6 + j, none⟩) hb).trans (hc k hlt j hj))
      have x0 : wr.cell? ⟨w.heap.size, 0, none⟩ = some (.slice (some ⟨b, off, none⟩) n cap) := (HB.out.cell (p := ⟨w.heap.size, 0, none⟩) (by simp)).trans (by simp)
      have zr : w.heap.size < wr.heap.size := by have := HB.out.size; simp at this; omega
      have zb : b < wr.heap.size := by omega
      have HX : Hid (∀ j, 0 < k → j < 6 → wr.cell? ⟨b, off + (k - 1) * 6 + j, none⟩ = (cs.getD (k - 1) noCls).cells[j]?) := fun j h0 hj => (hbw.cell (p := ⟨b, off + (k - 1) * 6 + j, none⟩) hb).trans (hc (k - 1) (by omega) j hj)
      have HO : Hid (0 < k → leS (cs.getD k noCls).pre (cs.getD (k - 1) noCls).pre = false) := fun h => Ho.out k h hlt
      clear hc Hr
      generalize cs.getD k noCls = cl at g c0 c1 c2 c3 c4 c5 HO
      generalize cs.getD (k - 1) noCls = pv at HX HO
      go_wp2_with fail
      refine (isPrefix_any _ _ (by have := g.preLen; omega)).mono ?_
      rw [g.pre]
      rintro e w1 ⟨rfl, hB1⟩
      obtain ⟨q1, -⟩ := bcell hB1
      go_wp2_with fail
      refine (isKey_any _ _ (by have := g.nameLen; omega)).mono ?_
      rw [g.name]
      rintro e w2 ⟨rfl, hB2⟩
      obtain ⟨q2, -⟩ := bcell hB2
      have z1 : wr.heap.size < w1.heap.size := by have := hB1.size; simp at this; omega
      have zb1 : b < w1.heap.size := by omega
      have zw1 : w.heap.size < w1.heap.size := by omega
      obtain ⟨g1, g2, g3, g4, g5, g6, g7, g8, g9, g10, g11, g12⟩ := g
      clear g1 g3
      go_wp2_with (go_at_call 73; refine (within_a _ _ _ _ (by omega) (by omega)).mono ?_; rintro e w' ⟨rfl, rfl⟩)
      by_cases hk0 : k = 0
      · subst hk0
        go_quiet (fail)
        go_wp2_with fail
        go_roundw
        case rel => exact ⟨1, by omega, rfl, (by (try show Below _ _ _); repeat (with_reducible first | exact Below.refl _ _ | assumption | exact Hid.out (by assumption) | refine ext_alloc ?_ | refine ext_drewN ?_ | refine ext_drew ?_ | refine ext_setCell ?_ (Nat.le_refl _) | refine ext_setCell ?_ (Nat.le_succ _) | refine ext_trans ?_ (by assumption) | (refine ext_setCell ?_ (by simp)) | (refine ext_setCell ?_ (by simp at *; omega))))⟩
        case measure => simp [intOf]; omega
      · have p0 : wr.cell? ⟨b, off + (k - 1) * 6, none⟩ = some (.string ⟨pv.pre.toArray⟩) := HX.out 0 (by omega) (by omega)
        have kp : (0 : Int) < (k : Int) := by omega
        have kp2 : 0 < k := by omega
        have kq : ((k : Int) - 1).toNat = k - 1 := by omega
        have kr : 0 ≤ (k : Int) - 1 := by omega
        have ks : (k : Int) - 1 < n := by omega
        obtain ⟨o1, o2⟩ := leS_false (HO.out kp2)
        go_quiet (fail)
        go_wp2_with fail
        go_roundw
        case rel => exact ⟨k + 1, by omega, by go_num, (by (try show Below _ _ _); repeat (with_reducible first | exact Below.refl _ _ | assumption | exact Hid.out (by assumption) | refine ext_alloc ?_ | refine ext_drewN ?_ | refine ext_drew ?_ | refine ext_setCell ?_ (Nat.le_refl _) | refine ext_setCell ?_ (Nat.le_succ _) | refine ext_trans ?_ (by assumption) | (refine ext_setCell ?_ (by simp)) | (refine ext_setCell ?_ (by simp at *; omega))))⟩
        case measure => simp [intOf]; omega
    · obtain ⟨wo, rfl⟩ : ∃ wo : World, wo = wr := ⟨_, rfl⟩
      have x1 : wo.cell? ⟨w.heap.size, 1, none⟩ = some (.int .i64 free) := (HB.out.cell (p := ⟨w.heap.size, 1, none⟩) (by simp)).trans (by simp)
      have x2 : wo.cell? ⟨w.heap.size, 2, none⟩ = some (.slice a2 n2 cap2) := (HB.out.cell (p := ⟨w.heap.size, 2, none⟩) (by simp)).trans (by simp)
      go_wp2_with (go_at_call 73; refine (within_a _ _ _ _ (by omega) (by omega)).mono ?_; rintro e w' ⟨rfl, rfl⟩)
      go_loopw [79] (fun i wr => ∃ k : Nat, k ≤ n2 ∧ i = .int .i64 k ∧ Hid (Below (w.alloc (.cells #[.slice a n cap, .int .i64 free, .slice a2 n2 cap2] 108)).heap.size (w.alloc (.cells #[.slice a n cap, .int .i64 free, .slice a2 n2 cap2] 108)) wr)) (fun i _ => n2 - (intOf i).toNat)
      case atStart => exact ⟨0, Nat.zero_le _, rfl, HB⟩
      case round =>
        obtain ⟨k, hk, rfl, HB⟩ := hrel
        have hbw : Below w.heap.size w wr := ext_trans (ext_alloc (Below.refl _ _)) HB.out
        have x2 : wr.cell? ⟨w.heap.size, 2, none⟩ = some (.slice a2 n2 cap2) := (HB.out.cell (p := ⟨w.heap.size, 2, none⟩) (by simp)).trans (by simp)
        have zr : w.heap.size < wr.heap.size := by have := HB.out.size; simp at this; omega
        by_cases hlt : k < n2
        · obtain ⟨g1, g2⟩ := Hi.out k hlt
          rcases Hs.out with h0 | ⟨b, off, rfl, hb, hc⟩
          · omega
          have zb : b < wr.heap.size := by omega
          have c0 := (hbw.cell (p := ⟨b, off + k, none⟩) hb).trans (hc k hlt)
          have HX : Hid (0 < k → wr.cell? ⟨b, off + (k - 1), none⟩ = some (.string ⟨(ss.getD (k - 1) []).toArray⟩)) := fun h0 => (hbw.cell (p := ⟨b, off + (k - 1), none⟩) hb).trans (hc (k - 1) (by omega))
          have HO : Hid (0 < k → leS (ss.getD k []) (ss.getD (k - 1) []) = false) := fun h => Ho2.out k h hlt
          clear hc Hs
          generalize ss.getD k [] = cl at g1 g2 c0 HO
          generalize ss.getD (k - 1) [] = pv at HX HO
          go_wp2_with fail
          refine (isKey_any _ _ (by omega)).mono ?_
          rw [g1]
          rintro e w2 ⟨rfl, hB2⟩
          obtain ⟨q2, -⟩ := bcell hB2
          clear g1
          by_cases hk0 : k = 0
          · subst hk0
            go_wp2_with fail
            go_roundw
            case rel => exact ⟨1, by omega, rfl, (by (try show Below _ _ _); repeat (with_reducible first | exact Below.refl _ _ | assumption | exact Hid.out (by assumption) | refine ext_alloc ?_ | refine ext_drewN ?_ | refine ext_drew ?_ | refine ext_setCell ?_ (Nat.le_refl _) | refine ext_setCell ?_ (Nat.le_succ _) | refine ext_trans ?_ (by assumption) | (refine ext_setCell ?_ (by simp)) | (refine ext_setCell ?_ (by simp at *; omega))))⟩
            case measure => simp [intOf]; omega
          · have p0 := HX.out (by omega)
            have kp : (0 : Int) < (k : Int) := by omega
            have kp2 : 0 < k := by omega
            have kq : ((k : Int) - 1).toNat = k - 1 := by omega
            have kr : 0 ≤ (k : Int) - 1 := by omega
            have ks : (k : Int) - 1 < n2 := by omega
            obtain ⟨o1, o2⟩ := leS_false (HO.out kp2)
            go_wp2_with fail
            go_roundw
            case rel => exact ⟨k + 1, by omega, by go_num, (by (try show Below _ _ _); repeat (with_reducible first | exact Below.refl _ _ | assumption | exact Hid.out (by assumption) | refine ext_alloc ?_ | refine ext_drewN ?_ | refine ext_drew ?_ | refine ext_setCell ?_ (Nat.le_refl _) | refine ext_setCell ?_ (Nat.le_succ _) | refine ext_trans ?_ (by assumption) | (refine ext_setCell ?_ (by simp)) | (refine ext_setCell ?_ (by simp at *; omega))))⟩
            case measure => simp [intOf]; omega
        · go_wp2_with fail
          go_ret
          exact ⟨rfl, hbw⟩
end Go.Proofs.YtamlhapiehchoaaGreatDoor

namespace Go.Proofs.YtamlhapiehchoaaGreatDoor
open Go.RowKit
set_option linter.unusedVariables false

/-- The classes are in order, each before the next. -/
def Sorted (cs : List Cls) : Prop := ∀ i, 0 < i → i < cs.length → leS (cs.getD i noCls).pre (cs.getD (i - 1) noCls).pre = false

theorem Sorted.lt {cs : List Cls} (h : Sorted cs) : ∀ (i d : Nat), i + (d + 1) < cs.length → Op.bytesLess (cs.getD i noCls).pre (cs.getD (i + (d + 1)) noCls).pre = true
  | i, 0, hi => by have := h (i + 1) (by omega) hi; exact less_of_leS this
  | i, d + 1, hi => by
    have h1 := Sorted.lt h i d (by omega)
    have h2 := less_of_leS (h (i + (d + 1) + 1) (by omega) (by omega))
    exact less_trans h1 h2

theorem Sorted.lt' {cs : List Cls} (h : Sorted cs) {i j : Nat} (hij : i < j) (hj : j < cs.length) : Op.bytesLess (cs.getD i noCls).pre (cs.getD j noCls).pre = true := by
  have := h.lt i (j - i - 1) (by omega)
  rwa [show i + (j - i - 1 + 1) = j by omega] at this

def cmpAt (cs : List Cls) (t : List UInt8) (i : Nat) : Int := Lib.compareBytes (cs.getD i noCls).pre t

theorem cmpAt_mono {cs : List Cls} (h : Sorted cs) {t : List UInt8} {i j : Nat} (hij : i ≤ j) (hj : j < cs.length) (hc : cmpAt cs t j < 0) : cmpAt cs t i < 0 := by
  rcases Nat.lt_or_eq_of_le hij with h' | rfl
  · unfold cmpAt at hc ⊢
    rw [cmp_neg] at hc ⊢
    exact less_trans (h.lt' h' hj) hc
  · exact hc

def findPre (cs : List Cls) (t : List UInt8) : Option Cls := cs.find? (fun c => c.pre == t)

theorem find_hit {cs : List Cls} (h : Sorted cs) {t : List UInt8} {i : Nat} (hi : i < cs.length) (hc : cmpAt cs t i = 0) : findPre cs t = some (cs.getD i noCls) := by
  unfold cmpAt at hc
  rw [cmp_zero] at hc
  unfold findPre
  rw [List.find?_eq_some_iff_getElem]
  have e : cs.getD i noCls = cs[i] := by simp [List.getD_eq_getElem?_getD, List.getElem?_eq_getElem hi]
  refine ⟨by simpa using hc, i, hi, e.symm, fun j hj => ?_⟩
  have e2 : cs.getD j noCls = cs[j] := by simp [List.getD_eq_getElem?_getD, List.getElem?_eq_getElem (Nat.lt_trans hj hi)]
  have := h.lt' hj hi
  rw [hc, e2] at this
  simp only [Bool.not_eq_true', beq_eq_false_iff_ne]
  intro e3
  rw [e3, less_irrefl] at this
  cases this

theorem find_miss {cs : List Cls} (h : Sorted cs) {t : List UInt8} {i : Nat} (hi : i ≤ cs.length) (h1 : ∀ m, m < i → cmpAt cs t m < 0) (h2 : ∀ m, i ≤ m → m < cs.length → ¬ cmpAt cs t m < 0) (h3 : i < cs.length → cmpAt cs t i ≠ 0) : findPre cs t = none := by
  unfold findPre
  rw [List.find?_eq_none]
  intro c hc hp
  obtain ⟨j, hj, rfl⟩ := List.getElem_of_mem hc
  have e : cs.getD j noCls = cs[j] := by simp [List.getD_eq_getElem?_getD, List.getElem?_eq_getElem hj]
  have hp' : cs[j].pre = t := by simpa using hp
  have hz : cmpAt cs t j = 0 := by unfold cmpAt; rw [cmp_zero, e]; exact hp'
  by_cases hji : j < i
  · have := h1 j hji; omega
  · by_cases hje : j = i
    · subst hje; exact h3 hj hz
    · have hlt : i < j := by omega
      have := h2 i (Nat.le_refl _) (by omega)
      apply this
      unfold cmpAt
      rw [cmp_neg]
      have hl := h.lt' hlt hj
      rw [e, hp'] at hl
      exact hl

theorem cls1_any (p n t : List UInt8) (a b c d : Int) (w : World) :
    Calls Tryz.prog 105 #[.agg #[.string ⟨p.toArray⟩, .string ⟨n.toArray⟩, .int .i64 a, .int .i64 b, .int .i64 c, .int .i64 d], .string ⟨t.toArray⟩] w fun e w' => e = .returned (.int .i64 (Lib.compareBytes p t)) ∧ Below w.heap.size w w' := by
  have hcon := fun w => Tryz.strings_Compare ⟨p.toArray⟩ ⟨t.toArray⟩ w
  change ∀ w, Calls _ _ _ w fun e w' => e = .returned (.int .i64 (Lib.compareBytes p t)) ∧ w' = w at hcon
  generalize Lib.compareBytes p t = r at hcon ⊢
  go_enter Tryz.func105, Tryz.ntmps105
  go_wp2_with (go_at_call 88; refine (hcon _).mono ?_; rintro e w' ⟨rfl, rfl⟩)
  go_ret
  exact ⟨rfl, (by (try show Below _ _ _); repeat (with_reducible first | exact Below.refl _ _ | assumption | exact Hid.out (by assumption) | refine ext_alloc ?_ | refine ext_drewN ?_ | refine ext_drew ?_ | refine ext_setCell ?_ (Nat.le_refl _) | refine ext_setCell ?_ (Nat.le_succ _) | refine ext_trans ?_ (by assumption) | (refine ext_setCell ?_ (by simp)) | (refine ext_setCell ?_ (by simp at *; omega))))⟩

/-- What the search comes to. -/
def Found (cs : List Cls) (t : List UInt8) (n : Nat) (w : World) (e : Ending) (w' : World) : Prop :=
  Below w.heap.size w w' ∧ ((∃ i, i < n ∧ e = .returned (.tuple #[.int .i64 (i : Nat), .bool true]) ∧ findPre cs t = some (cs.getD i noCls)) ∨ ∃ i : Int, e = .returned (.tuple #[.int .i64 i, .bool false]) ∧ findPre cs t = none)

set_option maxHeartbeats 1000000 in
theorem search_any (w : World) (a : Option Addr) (n cap : Nat) (cs : List Cls) (t : List UInt8) (hr : ClsRow w a n cs) (ho : Sorted cs) :
    Calls Tryz.prog 104 #[.slice a n cap, .string ⟨t.toArray⟩, .func (.func 105) #[] #[]] w (Found cs t n w) := by
  obtain ⟨hn, hn2, hr⟩ := hr
  have Hn := Lib.hid hn
  have Hr := Lib.hid hr
  have Ho := Lib.hid ho
  clear hn hr ho
  go_enter Tryz.func104, Tryz.ntmps104
  go_wp2_with fail
  go_loopw [9, 10] (fun s9 s10 wr => ∃ i j : Nat, i ≤ j ∧ j ≤ n ∧ s9 = .int .i64 i ∧ s10 = .int .i64 j ∧ Hid (Below w.heap.size w wr) ∧ Hid (∀ m, m < i → cmpAt cs t m < 0) ∧ Hid (∀ m, j ≤ m → m < n → 0 ≤ cmpAt cs t m)) (fun s9 s10 _ => (intOf s10).toNat - (intOf s9).toNat)
  case atStart => exact ⟨0, n, Nat.zero_le _, Nat.le_refl _, rfl, rfl, Below.refl _ _, fun m hm => absurd hm (by omega), fun m h1 h2 => absurd h1 (by omega)⟩
  case round =>
    obtain ⟨i, j, hij, hjn, rfl, rfl, HB, HL, HU⟩ := hrel
    by_cases hlt : i < j
    · rcases Hr.out with h0 | ⟨b, off, rfl, hb, hc⟩
      · omega
      obtain ⟨c0, c1, c2, c3, c4, c5⟩ := cls_cells (w := wr) (fun q hq => (HB.out.cell (p := ⟨b, off + ((i + j) / 2) * 6 + q, none⟩) hb).trans (hc ((i + j) / 2) (by omega) q hq))
      have hcmp : Hid (cmpAt cs t ((i + j) / 2) = Lib.compareBytes (cs.getD ((i + j) / 2) noCls).pre t) := rfl
      clear hc Hr
      generalize cs.getD ((i + j) / 2) noCls = cl at c0 c1 c2 c3 c4 c5 hcmp
      go_wp2_with fail
      refine (cls1_any _ _ _ _ _ _ _ _).mono ?_
      rintro e w1 ⟨rfl, hB1⟩
      generalize Lib.compareBytes cl.pre t = r at hcmp
      by_cases hr0 : r < 0
      · go_wp2_with fail
        go_roundw
        case rel => exact ⟨(i + j) / 2 + 1, j, by omega, hjn, by go_num, rfl, ext_trans HB.out hB1, fun m hm => cmpAt_mono Ho.out (j := (i + j) / 2) (by omega) (by rw [← Hn.out]; omega) (by rw [hcmp.out]; exact hr0), HU⟩
        case measure => simp [intOf]; omega
      · go_wp2_with fail
        go_roundw
        case rel => exact ⟨i, (i + j) / 2, by omega, by omega, rfl, by go_num, ext_trans HB.out hB1, HL, fun m h1 h2 => Int.not_lt.1 (fun hm => absurd (show r < 0 by rw [← hcmp.out]; exact cmpAt_mono Ho.out h1 (by rw [← Hn.out]; exact h2) hm) (by omega))⟩
        case measure => simp [intOf]; omega
    · obtain rfl : i = j := by omega
      by_cases hin : i < n
      · rcases Hr.out with h0 | ⟨b, off, rfl, hb, hc⟩
        · omega
        obtain ⟨c0, c1, c2, c3, c4, c5⟩ := cls_cells (w := wr) (fun q hq => (HB.out.cell (p := ⟨b, off + i * 6 + q, none⟩) hb).trans (hc i hin q hq))
        have hcmp : Hid (cmpAt cs t i = Lib.compareBytes (cs.getD i noCls).pre t) := rfl
        have hin2 : (i : Int) < (n : Int) := by omega
        clear hc Hr
        generalize hcl : cs.getD i noCls = cl at c0 c1 c2 c3 c4 c5 hcmp
        have Hcl := Lib.hid hcl
        clear hcl
        go_wp2_with fail
        refine (cls1_any _ _ _ _ _ _ _ _).mono ?_
        rintro e w1 ⟨rfl, hB1⟩
        generalize Lib.compareBytes cl.pre t = r at hcmp
        by_cases hr0 : r = 0
        · subst hr0
          go_wp2_with fail
          go_ret2
          exact ⟨ext_trans HB.out hB1, Or.inl ⟨i, hin, rfl, find_hit Ho.out (by rw [← Hn.out]; exact hin) hcmp.out⟩⟩
        · have hr1 : (r == 0) = false := by simpa using hr0
          go_wp2_with fail
          go_ret2
          exact ⟨ext_trans HB.out hB1, Or.inr ⟨_, rfl, find_miss Ho.out (by rw [← Hn.out]; omega) HL.out (by rw [← Hn.out]; exact fun m h1 h2 => Int.not_lt.2 (HU.out m h1 h2)) (fun _ => by rw [hcmp.out]; exact hr0)⟩⟩
      · have hin2 : ¬ (i : Int) < (n : Int) := by omega
        go_wp2_with fail
        go_ret2
        exact ⟨HB.out, Or.inr ⟨_, rfl, find_miss Ho.out (by rw [← Hn.out]; omega) HL.out (by rw [← Hn.out]; exact fun m h1 h2 => Int.not_lt.2 (HU.out m h1 h2)) (fun h => absurd h (by rw [← Hn.out]; omega))⟩⟩

def FoundP (cs : List Cls) (t : List UInt8) (n : Nat) (i : Int) (f : Bool) : Prop := (f = true → ∃ m : Nat, m < n ∧ i = m ∧ findPre cs t = some (cs.getD m noCls)) ∧ (f = false → findPre cs t = none)
def Found2 (cs : List Cls) (t : List UInt8) (n : Nat) (w : World) (e : Ending) (w' : World) : Prop :=
  ∃ (i : Int) (f : Bool), e = .returned (.tuple #[.int .i64 i, .bool f]) ∧ Below w.heap.size w w' ∧ FoundP cs t n i f

theorem search_str (w : World) (a : Option Addr) (n cap : Nat) (cs : List Cls) (t : List UInt8) (s : ByteArray) (hs : s.data.toList = t) (hr : ClsRow w a n cs) (ho : Sorted cs) :
    Calls Tryz.prog 104 #[.slice a n cap, .string s, .func (.func 105) #[] #[]] w (Found2 cs t n w) := by
  have h := search_any w a n cap cs t hr ho
  have e : (⟨t.toArray⟩ : ByteArray) = s := by rw [← hs]
  rw [e] at h
  refine h.mono ?_
  rintro e w' ⟨hb, ⟨i, hi, rfl, hf⟩ | ⟨i, rfl, hf⟩⟩
  · exact ⟨_, _, rfl, hb, (fun _ => ⟨i, hi, rfl, hf⟩), (fun h => by cases h)⟩
  · exact ⟨_, _, rfl, hb, (fun h => by cases h), fun _ => hf⟩

theorem extract_take (l : List UInt8) (k : Nat) : ((⟨l.toArray⟩ : ByteArray).extract 0 k).data.toList = l.take k := by
  simp [ByteArray.extract, ByteArray.copySlice]

def priceI (c : Cls) (talk : Int) : Int := if talk = 0 then 0 else c.setup + c.rate * ((max 0 (talk - c.first) + c.step - 1) / c.step)

set_option maxHeartbeats 1000000 in
theorem price_any (c : Cls) (talk : Int) (w : World) (g : GoodCls c) (h0 : 0 ≤ talk) (h1 : talk ≤ 86400000) :
    Calls Tryz.prog 75 #[.agg #[.string ⟨c.pre.toArray⟩, .string ⟨c.name.toArray⟩, .int .i64 c.setup, .int .i64 c.first, .int .i64 c.step, .int .i64 c.rate], .int .i64 talk] w fun e w' => e = .returned (.int .i64 (priceI c talk)) ∧ Below w.heap.size w w' := by
  obtain ⟨g1, g2, g3, g4, g5, g6, g7, g8, g9, g10, g11, g12⟩ := g
  clear g1 g3
  have hd : Hid (priceI c talk = if talk = 0 then 0 else c.setup + c.rate * ((max 0 (talk - c.first) + c.step - 1) / c.step)) := rfl
  by_cases ht : talk = 0
  · subst ht
    go_enter Tryz.func75, Tryz.ntmps75
    go_wp2_with fail
    go_ret
    exact ⟨by rw [hd.out]; rfl, (by (try show Below _ _ _); repeat (with_reducible first | exact Below.refl _ _ | assumption | exact Hid.out (by assumption) | refine ext_alloc ?_ | refine ext_drewN ?_ | refine ext_drew ?_ | refine ext_setCell ?_ (Nat.le_refl _) | refine ext_setCell ?_ (Nat.le_succ _) | refine ext_trans ?_ (by assumption) | (refine ext_setCell ?_ (by simp)) | (refine ext_setCell ?_ (by simp at *; omega))))⟩
  · have ht2 : (talk == 0) = false := by simpa using ht
    go_enter Tryz.func75, Tryz.ntmps75
    go_wp2_with fail
    generalize hv : max 0 (talk - c.first) = v at hd
    have v0 : 0 ≤ v := by omega
    have v1 : v ≤ 86400000 := by omega
    clear hv
    have q0 : 0 ≤ (v + c.step - 1) / c.step := Int.ediv_nonneg (by omega) (by omega)
    have q1 : (v + c.step - 1) / c.step ≤ 172800000 := Int.ediv_le_of_le_mul (by omega) (by have : (172800000 : Int) * 1 ≤ 172800000 * c.step := Int.mul_le_mul_of_nonneg_left g11 (by omega); omega)
    have m0 : 0 ≤ c.rate * ((v + c.step - 1) / c.step) := Int.mul_nonneg g7 q0
    have m1 : c.rate * ((v + c.step - 1) / c.step) ≤ 1000000 * 172800000 := Int.mul_le_mul g8 q1 q0 (by omega)
    have w1 : IntKind.i64.wrap (v + c.step) = v + c.step := IntWalk.i64_in _ (by omega)
    have w2 : IntKind.i64.wrap (v + c.step - 1) = v + c.step - 1 := IntWalk.i64_in _ (by omega)
    have w3 : IntKind.i64.wrap (c.rate * ((v + c.step - 1) / c.step)) = c.rate * ((v + c.step - 1) / c.step) := IntWalk.i64_in _ (by omega)
    have w4 : IntKind.i64.wrap (c.setup + c.rate * ((v + c.step - 1) / c.step)) = c.setup + c.rate * ((v + c.step - 1) / c.step) := IntWalk.i64_in _ (by omega)
    have w5 : (v + c.step - 1).tdiv c.step = (v + c.step - 1) / c.step := Int.tdiv_eq_ediv_of_nonneg (by omega)
    have w6 : IntKind.i64.wrap ((v + c.step - 1) / c.step) = (v + c.step - 1) / c.step := IntWalk.i64_in _ (by omega)
    have w7 : ¬ c.step = 0 := by omega
    clear q0 q1 m0 m1
    go_quiet (fail)
    go_wp2_with fail
    go_ret
    exact ⟨by rw [hd.out, if_neg ht]; rfl, (by (try show Below _ _ _); repeat (with_reducible first | exact Below.refl _ _ | assumption | exact Hid.out (by assumption) | refine ext_alloc ?_ | refine ext_drewN ?_ | refine ext_drew ?_ | refine ext_setCell ?_ (Nat.le_refl _) | refine ext_setCell ?_ (Nat.le_succ _) | refine ext_trans ?_ (by assumption) | (refine ext_setCell ?_ (by simp)) | (refine ext_setCell ?_ (by simp at *; omega))))⟩

/-- The class of a number: that of the longest of its beginnings of at most k bytes. -/
def clsTo (cs : List Cls) (l : List UInt8) : Nat → Option Cls
  | 0 => findPre cs (l.take 0)
  | k + 1 => (findPre cs (l.take (k + 1))).or (clsTo cs l k)

def clsOf (cs : List Cls) (l : List UInt8) : Option Cls := clsTo cs l l.length

def ClsPost (cs : List Cls) (l : List UInt8) (w : World) (e : Ending) (w' : World) : Prop :=
  Below w.heap.size w w' ∧ ((∃ c ∈ cs, e = .returned (.tuple #[.agg #[.string ⟨c.pre.toArray⟩, .string ⟨c.name.toArray⟩, .int .i64 c.setup, .int .i64 c.first, .int .i64 c.step, .int .i64 c.rate], .bool true]) ∧ clsOf cs l = some c) ∨
    (e = .returned (.tuple #[.agg #[.string ⟨#[]⟩, .string ⟨#[]⟩, .int .i64 0, .int .i64 0, .int .i64 0, .int .i64 0], .bool false]) ∧ clsOf cs l = none))

set_option maxRecDepth 100000 in
set_option maxHeartbeats 1000000 in
theorem classOf_any (w : World) (a : Option Addr) (n cap : Nat) (cs : List Cls) (v1 v2 : Value) (l : List UInt8) (hr : ClsRow w a n cs) (ho : Sorted cs) (hl : l.length ≤ 1000) :
    Calls Tryz.prog 74 #[.agg #[.slice a n cap, v1, v2], .string ⟨l.toArray⟩] w (ClsPost cs l w) := by
  have Hr := Lib.hid hr
  have Ho := Lib.hid ho
  clear hr ho
  go_enter Tryz.func74, Tryz.ntmps74
  go_wp2_with fail
  go_loopw [6] (fun s6 wr => ∃ k : Nat, k ≤ l.length + 1 ∧ s6 = .int .i64 ((k : Int) - 1) ∧ Hid (Below ((w.alloc (.cells #[.slice a n cap, v1, v2] 108)).alloc (.cells #[.string ⟨#[]⟩, .string ⟨#[]⟩, .int .i64 0, .int .i64 0, .int .i64 0, .int .i64 0] 105)).heap.size ((w.alloc (.cells #[.slice a n cap, v1, v2] 108)).alloc (.cells #[.string ⟨#[]⟩, .string ⟨#[]⟩, .int .i64 0, .int .i64 0, .int .i64 0, .int .i64 0] 105)) wr) ∧ Hid (clsOf cs l = match k with | 0 => none | m + 1 => clsTo cs l m)) (fun s6 _ => ((intOf s6) + 1).toNat)
  case atStart => exact ⟨l.length + 1, Nat.le_refl _, by go_num, Below.refl _ _, rfl⟩
  case round =>
    obtain ⟨k, hk, rfl, HB, HC⟩ := hrel
    have hbw : Below w.heap.size w wr := ext_trans (ext_alloc (ext_alloc (Below.refl _ _))) HB.out
    have x0 : wr.cell? ⟨w.heap.size, 0, none⟩ = some (.slice a n cap) := (HB.out.cell (p := ⟨w.heap.size, 0, none⟩) (by simp; omega)).trans (by simp)
    cases k with
    | zero =>
      have r0 : wr.cell? ⟨w.heap.size + 1, 0, none⟩ = some (.string ⟨#[]⟩) := (HB.out.cell (p := ⟨w.heap.size + 1, 0, none⟩) (by simp)).trans (by simp)
      have r1 : wr.cell? ⟨w.heap.size + 1, 1, none⟩ = some (.string ⟨#[]⟩) := (HB.out.cell (p := ⟨w.heap.size + 1, 1, none⟩) (by simp)).trans (by simp)
      have r2 : wr.cell? ⟨w.heap.size + 1, 2, none⟩ = some (.int .i64 0) := (HB.out.cell (p := ⟨w.heap.size + 1, 2, none⟩) (by simp)).trans (by simp)
      have r3 : wr.cell? ⟨w.heap.size + 1, 3, none⟩ = some (.int .i64 0) := (HB.out.cell (p := ⟨w.heap.size + 1, 3, none⟩) (by simp)).trans (by simp)
      have r4 : wr.cell? ⟨w.heap.size + 1, 4, none⟩ = some (.int .i64 0) := (HB.out.cell (p := ⟨w.heap.size + 1, 4, none⟩) (by simp)).trans (by simp)
      have r5 : wr.cell? ⟨w.heap.size + 1, 5, none⟩ = some (.int .i64 0) := (HB.out.cell (p := ⟨w.heap.size + 1, 5, none⟩) (by simp)).trans (by simp)
      have rf : ∀ j, wr.frozen? ⟨w.heap.size + 1, j, none⟩ = false := fun j => (HB.out.frozen (p := ⟨w.heap.size + 1, j, none⟩) (by simp)).trans (by simp)
      go_wp2_with fail
      refine bodyPost_ret (v := .tuple #[.agg #[.string ⟨#[]⟩, .string ⟨#[]⟩, .int .i64 0, .int .i64 0, .int .i64 0, .int .i64 0], .bool false]) (by simp [results, Tryz.results74, go_sem, r0, r1, r2, r3, r4, r5]) rfl ⟨?_, Or.inr ⟨rfl, HC.out⟩⟩
      exact (by (try show Below _ _ _); repeat (with_reducible first | exact Below.refl _ _ | assumption | exact Hid.out (by assumption) | refine ext_alloc ?_ | refine ext_drewN ?_ | refine ext_drew ?_ | refine ext_setCell ?_ (Nat.le_refl _) | refine ext_setCell ?_ (Nat.le_succ _) | refine ext_trans ?_ (by assumption) | (refine ext_setCell ?_ (by simp)) | (refine ext_setCell ?_ (by simp at *; omega))))
    | succ k =>
      have hk1 : ((k + 1 : Nat) : Int) - 1 = (k : Int) := by omega
      rw [hk1]
      clear hk1
      have kl : (k : Int) ≤ (l.length : Int) := by omega
      have kl2 : k ≤ l.length := by omega
      go_wp2_with fail
      go_region_with (go_at_call 104; refine (search_str _ a n cap cs (l.take k) _ (extract_take l k) ?hx Ho.out).mono ?_; exact Hr.out.below (ext_drew hbw); rintro e w1 ⟨i, f, rfl, hB1, hfp⟩)
      have hw1 : Below w.heap.size w w1 := ext_trans (ext_drew hbw) hB1
      have HB1 : Hid (Below ((w.alloc (.cells #[.slice a n cap, v1, v2] 108)).alloc (.cells #[.string ⟨#[]⟩, .string ⟨#[]⟩, .int .i64 0, .int .i64 0, .int .i64 0, .int .i64 0] 105)).heap.size ((w.alloc (.cells #[.slice a n cap, v1, v2] 108)).alloc (.cells #[.string ⟨#[]⟩, .string ⟨#[]⟩, .int .i64 0, .int .i64 0, .int .i64 0, .int .i64 0] 105)) w1) := ext_trans (ext_drew HB.out) hB1
      cases f with
      | false =>
        have hnone := hfp.2 rfl
        go_wp2_with fail
        go_roundw
        case rel => exact ⟨k, by omega, rfl, HB1, by
          show clsOf cs l = _
          rw [HC.out]
          cases k with
          | zero => exact hnone
          | succ m => show (findPre cs (l.take (m + 1))).or (clsTo cs l m) = _; rw [hnone]; rfl⟩
        case measure => simp [intOf]
      | true =>
        obtain ⟨m, hm, rfl, hsome⟩ := hfp.1 rfl
        have hrow := Hr.out.below hw1
        obtain ⟨hn1, hn2, hrow⟩ := hrow
        have hmem : Hid (cs.getD m noCls ∈ cs) := by
          show cs.getD m noCls ∈ cs
          have hm2 : m < cs.length := by omega
          rw [List.getD_eq_getElem?_getD, List.getElem?_eq_getElem hm2]; exact List.getElem_mem hm2
        have hfin : Hid (clsOf cs l = some (cs.getD m noCls)) := by
          show clsOf cs l = _
          rw [HC.out]
          cases k with
          | zero => exact hsome
          | succ q => show (findPre cs (l.take (q + 1))).or (clsTo cs l q) = _; rw [hsome]; rfl
        have Hn1 := Lib.hid hn1
        clear hn1 hsome hfp
        rcases hrow with h0 | ⟨b, off, rfl, hb, hc⟩
        · omega
        obtain ⟨c0, c1, c2, c3, c4, c5⟩ := cls_cells (hc m hm)
        clear hc
        have x1 : w1.cell? ⟨w.heap.size, 0, none⟩ = some (.slice (some ⟨b, off, none⟩) n cap) := (HB1.out.cell (p := ⟨w.heap.size, 0, none⟩) (by simp; omega)).trans (by simp)
        have r0 : w1.cell? ⟨w.heap.size + 1, 0, none⟩ = some (.string ⟨#[]⟩) := (HB1.out.cell (p := ⟨w.heap.size + 1, 0, none⟩) (by simp)).trans (by simp)
        have r1 : w1.cell? ⟨w.heap.size + 1, 1, none⟩ = some (.string ⟨#[]⟩) := (HB1.out.cell (p := ⟨w.heap.size + 1, 1, none⟩) (by simp)).trans (by simp)
        have r2 : w1.cell? ⟨w.heap.size + 1, 2, none⟩ = some (.int .i64 0) := (HB1.out.cell (p := ⟨w.heap.size + 1, 2, none⟩) (by simp)).trans (by simp)
        have r3 : w1.cell? ⟨w.heap.size + 1, 3, none⟩ = some (.int .i64 0) := (HB1.out.cell (p := ⟨w.heap.size + 1, 3, none⟩) (by simp)).trans (by simp)
        have r4 : w1.cell? ⟨w.heap.size + 1, 4, none⟩ = some (.int .i64 0) := (HB1.out.cell (p := ⟨w.heap.size + 1, 4, none⟩) (by simp)).trans (by simp)
        have r5 : w1.cell? ⟨w.heap.size + 1, 5, none⟩ = some (.int .i64 0) := (HB1.out.cell (p := ⟨w.heap.size + 1, 5, none⟩) (by simp)).trans (by simp)
        have rf : ∀ j, w1.frozen? ⟨w.heap.size + 1, j, none⟩ = false := fun j => (HB1.out.frozen (p := ⟨w.heap.size + 1, j, none⟩) (by simp)).trans (by simp)
        have Hb1 := Lib.hid HB1.out
        generalize cs.getD m noCls = cl at c0 c1 c2 c3 c4 c5 hmem hfin
        go_wp2_with fail
        refine bodyPost_ret (v := .tuple #[.agg #[.string ⟨cl.pre.toArray⟩, .string ⟨cl.name.toArray⟩, .int .i64 cl.setup, .int .i64 cl.first, .int .i64 cl.step, .int .i64 cl.rate], .bool true]) (by simp [results, Tryz.results74, go_sem, r0, r1, r2, r3, r4, r5]) rfl ⟨?_, Or.inl ⟨cl, hmem.out, rfl, hfin.out⟩⟩
        exact (by (try show Below _ _ _); repeat (with_reducible first | exact Below.refl _ _ | assumption | exact Hid.out (by assumption) | refine ext_alloc ?_ | refine ext_drewN ?_ | refine ext_drew ?_ | refine ext_setCell ?_ (Nat.le_refl _) | refine ext_setCell ?_ (Nat.le_succ _) | refine ext_trans ?_ (by assumption) | (refine ext_setCell ?_ (by simp)) | (refine ext_setCell ?_ (by simp at *; omega))))
end Go.Proofs.YtamlhapiehchoaaGreatDoor

namespace Go.Proofs.YtamlhapiehchoaaGreatDoor
open Go.RowKit
set_option linter.unusedVariables false

/-- A tariff that is right, in memory. -/
structure TariffAt (w : World) (a : Option Addr) (n : Nat) (cs : List Cls) (free : Int) (a2 : Option Addr) (n2 : Nat) (ss : List (List UInt8)) : Prop where
  row : ClsRow w a n cs
  good : ∀ i, i < n → GoodCls (cs.getD i noCls)
  sorted : Sorted cs
  ins : StrRow w a2 n2 ss
  keys : ∀ i, i < n2 → isKeyB (ss.getD i []) = true ∧ (ss.getD i []).length ≤ 1000
  order : ∀ i, 0 < i → i < n2 → leS (ss.getD i []) (ss.getD (i - 1) []) = false
  free0 : 0 ≤ free
  free1 : free ≤ 2592000000

theorem TariffAt.below {w w' : World} {a : Option Addr} {n : Nat} {cs : List Cls} {free : Int} {a2 : Option Addr} {n2 : Nat} {ss : List (List UInt8)} (h : TariffAt w a n cs free a2 n2 ss) (hb : Below w.heap.size w w') : TariffAt w' a n cs free a2 n2 ss :=
  ⟨h.row.below hb, h.good, h.sorted, h.ins.below hb, h.keys, h.order, h.free0, h.free1⟩

theorem checkTariff_at {w : World} {a : Option Addr} {n cap : Nat} {cs : List Cls} {free : Int} {a2 : Option Addr} {n2 cap2 : Nat} {ss : List (List UInt8)} (h : TariffAt w a n cs free a2 n2 ss) :
    Calls Tryz.prog 71 #[.agg #[.slice a n cap, .int .i64 free, .slice a2 n2 cap2]] w fun e w' => e = .returned (.int .i64 0) ∧ Below w.heap.size w w' :=
  checkTariff_ok w a n cap cs free a2 n2 cap2 ss h.row h.good (fun i h0 hi => h.sorted i h0 (by rw [← h.row.1]; exact hi)) h.ins h.keys h.order h.free0 h.free1

theorem TariffAt.mem {w : World} {a : Option Addr} {n : Nat} {cs : List Cls} {free : Int} {a2 : Option Addr} {n2 : Nat} {ss : List (List UInt8)} (h : TariffAt w a n cs free a2 n2 ss) {c : Cls} (hc : c ∈ cs) : GoodCls c := by
  obtain ⟨j, hj, rfl⟩ := List.getElem_of_mem hc
  have := h.good j (by rw [h.row.1]; exact hj)
  simpa [List.getD_eq_getElem?_getD, List.getElem?_eq_getElem hj] using this

def PricePost (cs : List Cls) (l : List UInt8) (talk : Int) (w : World) (e : Ending) (w' : World) : Prop :=
  Below w.heap.size w w' ∧ e = .returned (.tuple #[.int .i64 (match clsOf cs l with | some c => priceI c talk | none => 0), .int .i64 (match clsOf cs l with | some _ => 0 | none => 8)])

set_option maxHeartbeats 1000000 in
theorem price_at {w : World} {a : Option Addr} {n cap : Nat} {cs : List Cls} {free : Int} {a2 : Option Addr} {n2 cap2 : Nat} {ss : List (List UInt8)} (h : TariffAt w a n cs free a2 n2 ss) (l : List UInt8) (hl : isNumB l = true) (hl2 : l.length ≤ 1000) (talk : Int) (t0 : 0 ≤ talk) (t1 : talk ≤ 86400000) :
    Calls Tryz.prog 40 #[.agg #[.slice a n cap, .int .i64 free, .slice a2 n2 cap2], .string ⟨l.toArray⟩, .int .i64 talk] w (PricePost cs l talk w) := by
  have H := Lib.hid h
  clear h
  go_enter Tryz.func40, Tryz.ntmps40
  go_wp2_with fail
  refine (checkTariff_at (H.out.below (ext_alloc (Below.refl _ _)))).mono ?_
  rintro e w1 ⟨rfl, hB1⟩
  obtain ⟨q1, -⟩ := bcell hB1
  go_wp2_with fail
  refine (isNumber_any _ _ (by show l.length ≤ _; omega)).mono ?_
  rw [show isNumB (⟨l.toArray⟩ : ByteArray).data.toList = true from hl]
  rintro e w2 ⟨rfl, hB2⟩
  obtain ⟨q2, -⟩ := bcell hB2
  have z0 : w.heap.size < w1.heap.size := by have := hB1.size; simp at this; omega
  clear hl
  have hw2 : Below w.heap.size w w2 := (by (try show Below _ _ _); repeat (with_reducible first | exact Below.refl _ _ | assumption | exact Hid.out (by assumption) | refine ext_alloc ?_ | refine ext_drewN ?_ | refine ext_drew ?_ | refine ext_setCell ?_ (Nat.le_refl _) | refine ext_setCell ?_ (Nat.le_succ _) | refine ext_trans ?_ (by assumption) | (refine ext_setCell ?_ (by simp)) | (refine ext_setCell ?_ (by simp at *; omega))))
  go_wp2_with (go_at_call 73; refine (within_a _ _ _ _ (by omega) (by omega)).mono ?_; rintro e w' ⟨rfl, rfl⟩)
  refine (classOf_any _ _ _ _ cs _ _ l (H.out.row.below hw2) H.out.sorted hl2).mono ?_
  rintro e w3 ⟨hB3, ⟨c, hc, rfl, hcl⟩ | ⟨rfl, hcl⟩⟩
  · have hfin : Hid (PricePost cs l talk w = fun e w' => Below w.heap.size w w' ∧ e = .returned (.tuple #[.int .i64 (priceI c talk), .int .i64 0])) := by
      funext e w'; simp only [PricePost, hcl]
    have g := H.out.mem hc
    have G := Lib.hid g
    clear g hcl
    go_wp2_with fail
    refine (price_any c talk _ G.out t0 t1).mono ?_
    rintro e w4 ⟨rfl, hB4⟩
    go_wp2_with fail
    go_ret2
    rw [hfin.out]
    exact ⟨(by (try show Below _ _ _); repeat (with_reducible first | exact Below.refl _ _ | assumption | exact Hid.out (by assumption) | refine ext_alloc ?_ | refine ext_drewN ?_ | refine ext_drew ?_ | refine ext_setCell ?_ (Nat.le_refl _) | refine ext_setCell ?_ (Nat.le_succ _) | refine ext_trans ?_ (by assumption) | (refine ext_setCell ?_ (by simp)) | (refine ext_setCell ?_ (by simp at *; omega)))), rfl⟩
  · have hfin : Hid (PricePost cs l talk w = fun e w' => Below w.heap.size w w' ∧ e = .returned (.tuple #[.int .i64 0, .int .i64 8])) := by
      funext e w'; simp only [PricePost, hcl]
    clear hcl
    go_wp2_with fail
    go_ret2
    rw [hfin.out]
    exact ⟨(by (try show Below _ _ _); repeat (with_reducible first | exact Below.refl _ _ | assumption | exact Hid.out (by assumption) | refine ext_alloc ?_ | refine ext_drewN ?_ | refine ext_drew ?_ | refine ext_setCell ?_ (Nat.le_refl _) | refine ext_setCell ?_ (Nat.le_succ _) | refine ext_trans ?_ (by assumption) | (refine ext_setCell ?_ (by simp)) | (refine ext_setCell ?_ (by simp at *; omega)))), rfl⟩
end Go.Proofs.YtamlhapiehchoaaGreatDoor
